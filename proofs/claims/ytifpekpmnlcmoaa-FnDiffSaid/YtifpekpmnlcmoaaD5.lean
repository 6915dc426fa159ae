import Derived.Test.YtifpekpmnlcmoaaProg
import Derived.Test.YtifpekpmnlcmoaaE33
import Derived.Test.YtifpekpmnlcmoaaD4
set_option linter.unusedVariables false
set_option linter.unusedSimpArgs false
set_option maxRecDepth 100000
namespace Go.Proofs.YtifpekpmnlcmoaaE
open Go Go.RowKit Go.Shelf Go.Proofs
abbrev KROLSzSz : Tys := .cons .b (.cons (.l KS) (.cons .s .nil))
theorem mi37 : MI Go.Proofs.Try.prog 37 42 KROLSzSz 48 := ⟨by kernel_rfl, by kernel_rfl⟩
theorem pi42 : binfo Go.Proofs.Try.prog 42 = some [(0, 1), (1, 1), (2, 1)] := by kernel_rfl
theorem zi42 : zinfo Go.Proofs.Try.prog 42 = some [.c .b false, .nl, .c .s []] := by kernel_rfl

def findI (l : Leafs) (p : StrS) : Int := fidx (fun y : KRLSzSz.den => decide (y.1 = p)) l 0
def isDel (b : Leafs) (x : KRLSzSz.den) : Bool := decide (findI b x.1 < 0)
def isSet (a : Leafs) (x : KRLSzSz.den) : Bool := decide (findI a x.1 < 0) || !decide ((ix KRLSzSz.z a (findI a x.1)).2.1 = x.2.1)
def delC (b l : Leafs) : List KROLSzSz.den := (l.filter (isDel b)).map fun x => (false, x.1, [], ())
def setC (a l : Leafs) : List KROLSzSz.den := (l.filter (isSet a)).map fun x => (true, x.1, x.2.1, ())
def diffI (a b : Leafs) : List KROLSzSz.den := delC b a ++ setC a b
theorem isDel_t (b : Leafs) (x : KRLSzSz.den) (h : findI b x.1 < 0) : isDel b x = true := decide_eq_true h
theorem isDel_f (b : Leafs) (x : KRLSzSz.den) (h : 0 ≤ findI b x.1) : ¬ isDel b x = true := by simp only [isDel, decide_eq_true_eq]; omega
theorem isSet_1 (a : Leafs) (x : KRLSzSz.den) (h : findI a x.1 < 0) : isSet a x = true := by rw [isSet, decide_eq_true h, Bool.true_or]
theorem isSet_2 (a : Leafs) (x : KRLSzSz.den) (h : ¬ (ix KRLSzSz.z a (findI a x.1)).2.1 = x.2.1) : isSet a x = true := by rw [isSet, decide_eq_false h, Bool.not_false, Bool.or_true]
theorem isSet_0 (a : Leafs) (x : KRLSzSz.den) (h1 : 0 ≤ findI a x.1) (h2 : (ix KRLSzSz.z a (findI a x.1)).2.1 = x.2.1) : ¬ isSet a x = true := by rw [isSet, decide_eq_true h2, decide_eq_false (by omega)]; simp
theorem delC_step {b l : Leafs} {i : Nat} (h : i < l.length) : delC b (l.take (i + 1)) = delC b (l.take i) ++ (if isDel b (ix KRLSzSz.z l (i : Int)) = true then [(false, (ix KRLSzSz.z l (i : Int)).1, [], ())] else []) := by
  rw [take_ix (z := KRLSzSz.z) h, delC, delC, List.filter_append, List.map_append]
  congr 1
  cases hd : isDel b (ix KRLSzSz.z l (i : Int)) <;> simp [hd]
theorem setC_step {a l : Leafs} {i : Nat} (h : i < l.length) : setC a (l.take (i + 1)) = setC a (l.take i) ++ (if isSet a (ix KRLSzSz.z l (i : Int)) = true then [(true, (ix KRLSzSz.z l (i : Int)).1, (ix KRLSzSz.z l (i : Int)).2.1, ())] else []) := by
  rw [take_ix (z := KRLSzSz.z) h, setC, setC, List.filter_append, List.map_append]
  congr 1
  cases hd : isSet a (ix KRLSzSz.z l (i : Int)) <;> simp [hd]
theorem delC_len {b l : Leafs} : (delC b l).length ≤ l.length := by simp only [delC, List.length_map]; exact List.length_filter_le _ _
theorem setC_len {b l : Leafs} : (setC b l).length ≤ l.length := by simp only [setC, List.length_map]; exact List.length_filter_le _ _
theorem findI_lt (l : Leafs) (p : StrS) (h : ¬ findI l p < 0) : findI l p < l.length := by
  rcases fidx_cases (fun y : KRLSzSz.den => decide (y.1 = p)) KRLSzSz.z l 0 with ⟨h1, _⟩ | ⟨i, h1, h2, _⟩
  · unfold findI at h; omega
  · unfold findI; omega
def cfgDiff (a b : Leafs) : List KROLSzSz.den × Bool := if good a = true ∧ good b = true then (diffI a b, true) else ([], false)
def step1 (l : Leafs) (x : KROLSzSz.den) : Leafs × Bool := if x.1 = true then cfgSet l x.2.1 x.2.2.1 else if x.2.2.1 = [] then cfgDel l x.2.1 else ([], false)
def doC : Leafs → List KROLSzSz.den → Leafs × Bool
  | l, [] => (l, true)
  | l, x :: c => if (step1 l x).2 = true then doC (step1 l x).1 c else ([], false)
def cfgDo (l : Leafs) (c : List KROLSzSz.den) : Leafs × Bool := if good l = true ∧ c.length ≤ 80 then doC l c else ([], false)
theorem doC_step {l : Leafs} {c : List KROLSzSz.den} {i : Nat} (h : i < c.length) : doC l (c.drop i) = if (step1 l (ix KROLSzSz.z c (i : Int))).2 = true then doC (step1 l (ix KROLSzSz.z c (i : Int))).1 (c.drop (i + 1)) else ([], false) := by
  rw [drop_ix (xs := c) (i := i) (z := KROLSzSz.z) h, doC]
def wdsT (p : StrS) : List UInt8 := p.flatMap fun w => 32 :: w.1
def cmdOK (c : KROLSzSz.den) : Bool := path c.2.1 && (if c.1 = true then word c.2.2.1 else decide (c.2.2.1 = []))
def cmdT (c : KROLSzSz.den) : List UInt8 × Bool := if cmdOK c = true then ((if c.1 = true then [115, 101, 116] else [100, 101, 108, 101, 116, 101]) ++ wdsT c.2.1 ++ (if c.1 = true then 32 :: c.2.2.1 else []), true) else ([], false)
theorem join_wds : ∀ (p : StrS), p ≠ [] → 32 :: Lib.join (p.map (·.1)) [32] = wdsT p
  | [], h => absurd rfl h
  | [x], _ => by simp [Lib.join, wdsT, List.intercalate]
  | x :: y :: p, _ => by
    have := join_wds (y :: p) (by simp)
    have e : wdsT (x :: y :: p) = 32 :: x.1 ++ wdsT (y :: p) := rfl
    rw [e, ← this]
    simp [Lib.join, List.intercalate, List.intersperse]
theorem wdsT_len : ∀ (p : StrS), (∀ w ∈ p, w.1.length ≤ 8) → (wdsT p).length ≤ 9 * p.length
  | [], _ => by simp [wdsT]
  | x :: p, h => by
    have := wdsT_len p (fun w hw => h w (List.mem_cons_of_mem _ hw))
    have h2 := h x List.mem_cons_self
    have e : wdsT (x :: p) = 32 :: x.1 ++ wdsT p := rfl
    rw [e]; simp only [List.length_append, List.length_cons]; omega
theorem path_mem {p : StrS} (h : path p = true) : ∀ w ∈ p, w.1.length ≤ 8 := by
  simp only [path, Bool.and_eq_true, List.all_eq_true] at h
  exact fun w hw => (word_len (h.1 w hw)).2
theorem join_len {p : StrS} (h : path p = true) : (Lib.join (p.map (·.1)) [32]).length ≤ 45 := by
  have h1 := path_len h
  have h2 := join_wds p (by intro e; subst e; simp at h1)
  have h3 := congrArg List.length h2
  have h4 := wdsT_len p (path_mem h)
  simp only [List.length_cons] at h3; omega

def lays156_ren : Go.Shelf.Ren := ⟨fun | 156 => 89 | 165 => 136 | 166 => 116 | 169 => 62 | 240 => 154 | 241 => 168 | 276 => 174 | 277 => 178 | n => n, fun | 31 => 40 | 9 => 9 | 3 => 3 | 4 => 4 | 0 => 0 | 20 => 20 | 72 => 98 | 76 => 144 | 70 => 96 | 37 => 34 | 75 => 143 | 127 => 146 | 164 => 182 | 5 => 5 | 80 => 101 | n => n, fun | n => n⟩
theorem lays156 : Go.Proofs.Lays.n156 Go.Proofs.Try.prog lays156_ren := {
  mixed := by kernel_rfl
  f156 := Go.Proofs.Try.func89.trans (congrArg some (by kernel_rfl))
  f165 := Go.Proofs.Try.func136.trans (congrArg some (by kernel_rfl))
  f166 := Go.Proofs.Try.func116.trans (congrArg some (by kernel_rfl))
  f169 := Go.Proofs.Try.func62.trans (congrArg some (by kernel_rfl))
  f240 := Go.Proofs.Try.func154.trans (congrArg some (by kernel_rfl))
  f241 := Go.Proofs.Try.func168.trans (congrArg some (by kernel_rfl))
  f276 := Go.Proofs.Try.func174.trans (congrArg some (by kernel_rfl))
  f277 := Go.Proofs.Try.func178.trans (congrArg some (by kernel_rfl))
  t0 := Go.Proofs.Try.underlying0
  a0 := Go.Proofs.Try.isAgg0
  z0 := Go.Proofs.Try.sizeOf0
  v0 := Go.Proofs.Try.zeroValue0
  t3 := Go.Proofs.Try.underlying3
  a3 := Go.Proofs.Try.isAgg3
  z3 := Go.Proofs.Try.sizeOf3
  v3 := Go.Proofs.Try.zeroValue3
  t4 := Go.Proofs.Try.underlying4
  a4 := Go.Proofs.Try.isAgg4
  z4 := Go.Proofs.Try.sizeOf4
  v4 := Go.Proofs.Try.zeroValue4
  t9 := Go.Proofs.Try.underlying9
  a9 := Go.Proofs.Try.isAgg9
  z9 := Go.Proofs.Try.sizeOf9
  v9 := Go.Proofs.Try.zeroValue9
  t20 := Go.Proofs.Try.underlying20
  a20 := Go.Proofs.Try.isAgg20
  z20 := Go.Proofs.Try.sizeOf20
  v20 := Go.Proofs.Try.zeroValue20
  t31 := Go.Proofs.Try.underlying40
  a31 := Go.Proofs.Try.isAgg40
  z31 := Go.Proofs.Try.sizeOf40
  v31 := Go.Proofs.Try.zeroValue40
  t37 := Go.Proofs.Try.underlying34
  a37 := Go.Proofs.Try.isAgg34
  z37 := Go.Proofs.Try.sizeOf34
  v37 := Go.Proofs.Try.zeroValue34
  t70 := Go.Proofs.Try.underlying96
  a70 := Go.Proofs.Try.isAgg96
  z70 := Go.Proofs.Try.sizeOf96
  v70 := Go.Proofs.Try.zeroValue96
  t72 := Go.Proofs.Try.underlying98
  a72 := Go.Proofs.Try.isAgg98
  z72 := Go.Proofs.Try.sizeOf98
  v72 := Go.Proofs.Try.zeroValue98
  t75 := Go.Proofs.Try.underlying143
  a75 := Go.Proofs.Try.isAgg143
  z75 := Go.Proofs.Try.sizeOf143
  v75 := Go.Proofs.Try.zeroValue143
  t76 := Go.Proofs.Try.underlying144
  a76 := Go.Proofs.Try.isAgg144
  z76 := Go.Proofs.Try.sizeOf144
  v76 := Go.Proofs.Try.zeroValue144
  t127 := Go.Proofs.Try.underlying146
  a127 := Go.Proofs.Try.isAgg146
  z127 := Go.Proofs.Try.sizeOf146
  v127 := Go.Proofs.Try.zeroValue146
  t164 := Go.Proofs.Try.underlying182
  a164 := Go.Proofs.Try.isAgg182
  z164 := Go.Proofs.Try.sizeOf182
  v164 := Go.Proofs.Try.zeroValue182 }
theorem Builder_Extra_156 : Builder.Extra Go.Proofs.Try.prog lays156_ren := {
  sizeBuilder := by kernel_rfl
  liesBuilder := by kernel_rfl
  t5 := Go.Proofs.Try.underlying5
  a5 := Go.Proofs.Try.isAgg5
  z5 := Go.Proofs.Try.sizeOf5
  v5 := Go.Proofs.Try.zeroValue5
  infoByte := by kernel_rfl
  cellsByte := by kernel_rfl
  sizeByte := by kernel_rfl
  neB5 := by decide }

theorem c_strings_Join : Fe Go.Proofs.Try.prog 89 (ι := StrS × List UInt8) (fun x => [.c (.l KS) x.1, .c .s x.2]) (fun _ => []) (fun x => x.1.length ≤ 140737488355328 ∧ (Lib.join (x.1.map (·.1)) x.2).length ≤ 140737488355328) (fun x => (.c .s (Lib.join (x.1.map (·.1)) x.2), [])) :=
  bjoin lays156 Builder_Extra_156 (ent Go.Proofs.Try.func89 (by kernel_rfl) rfl)

theorem c_impl_diffOf : Fe Go.Proofs.Try.prog 79 (ι := Leafs × Leafs) (fun | (a, b) => [.c (.l KRLSzSz) a, .c (.l KRLSzSz) b]) (fun | (a, b) => []) (fun | (a, b) => a.length ≤ 1000 ∧ b.length ≤ 1000 ∧ (∀ x ∈ a, x.1.length ≤ 1048576) ∧ ∀ x ∈ b, x.1.length ≤ 1048576) (fun | (a, b) => (.own 0, [.arr true 42 KROLSzSz (diffI a b)])) := by
  refine fnE (n := 64) Go.Proofs.Try.func79 rfl rfl (ent Go.Proofs.Try.func79 (by kernel_rfl) rfl) ?_
  rintro ⟨a, b⟩ hx
  refine ⟨Le rfl, fun w0 S0 H Z hH => ?_⟩
  try simp only [] at hx
  refine cseq ?_
  refine creg ?_
  refine o1 (asn rfl) ?_
  refine onil ?_
  refine xthn ?_
  refine cseq ?_
  refine creg ?_
  refine e1 (av := .own 0) (sbs0 mi37) ?_
  refine o1 (asn rfl) ?_
  refine onil ?_
  refine xthn ?_
  refine cseq ?_
  refine cseq ?_
  refine creg ?_
  refine o1 (mv rfl) ?_
  refine ofact (t := 12) rfl fun hl1 => ?_
  refine o1 (lenl rfl li26) ?_
  refine o1 (mv rfl) ?_
  refine onil ?_
  refine xthn ?_
  refine cblock ?_
  refine cwk (wdp (k := 0) rfl rfl) ?_
  refine clk (ι := Nat) (.c 0 rfl (.c 1 rfl (.c 12 rfl (.c 13 rfl (.n))))) (fun i r => (14, .c (.i .i64) ((i : Int))) :: (5, .own 0) :: r) (fun i r => r.set 0 (.arr true 42 KROLSzSz (delC b (a.take i)))) (fun i => i ≤ a.length) (fun i => a.length - i) 0 (by simp) (weak [0] (by decide) (hk hH rfl) (by repeat (first | exact .n | refine .c rfl (by first | rfl | exact arq rfl) ?_)) (by repeat (first | exact .n | refine .c rfl (by first | rfl) ?_))) ?_
  rintro i i0
  try simp only [] at i0
  refine cseq ?_
  refine creg ?_
  refine o1 (ibin rfl rfl rfl) ?_
  refine onil ?_
  refine xthn ?_
  refine cseq ?_
  refine ccond rfl (fun c1 => ?_) (fun c1 => ?_)
  · try simp only [q1, q2, q3, q4, q5, q6, q7, q8, q9, q10, q11, q12, q13, q14, q15, q16, q17] at c1
    refine cskip ?_
    refine xthn ?_
    refine cseq ?_
    refine cblock ?_
    refine cseq ?_
    refine creg ?_
    refine o1 (ixl rfl rfl li26 rfl (by first | omega | (simp only [List.length_cons, List.length_nil, List.length_append]; omega) | (simp; omega)) (by first | omega | (simp only [List.length_cons, List.length_nil, List.length_append]; omega) | (simp; omega))) ?_
    refine o1 (ldrn rfl ti94 (Le rfl)) ?_
    refine e1 (av := .bp 1 0) (salloc zi94) ?_
    refine e0 (sstn rfl rfl rfl rfl (Le rfl) ti94) ?_
    refine owk (wnorm (.c (o := .arr _ _ _ _) rfl (.c (o := .box _ _) rfl (.n))) rfl) ?_
    refine onil ?_
    refine xthn ?_
    refine cseq ?_
    refine creg ?_
    refine o1 (mv rfl) ?_
    refine o1 (fab rfl fi94_0) ?_
    refine o1 (ldb rfl rfl rfl ti40) ?_
    refine ce c_impl_find (_, _) [] [] (.c rfl (.c (.e rfl)) (.c rfl (.c (.e rfl)) (.n))) (by first | trivial | assumption | omega | (simp only []; omega) | (refine ?_; omega) | (constructor <;> omega) | (refine ⟨?_, ?_⟩ <;> (first | assumption | omega | (simp; omega)))) (by decide) (by decide) (.n) rfl (.inl rfl) ?_ (.inl rfl)
    refine o1 (ibin rfl rfl rfl) ?_
    refine onil ?_
    refine xthn ?_
    refine ccond rfl (fun c2 => ?_) (fun c2 => ?_)
    · try simp only [q1, q2, q3, q4, q5, q6, q7, q8, q9, q10, q11, q12, q13, q14, q15, q16, q17] at c2
      have dl := delC_len (b := b) (l := a.take i)
      simp only [List.length_take] at dl
      refine creg ?_
      refine o1 (mv rfl) ?_
      refine o1 (fab rfl fi94_0) ?_
      refine o1 (ldb rfl rfl rfl ti40) ?_
      refine ce c_slices_Clone_string_string _ [] [] (.c rfl (.c (.e rfl)) (.n)) (by exact hx.2.2.1 _ (ix_mem (z := KRLSzSz.z) (i := i) (by omega))) (by decide) (by decide) (.n) rfl (.inl rfl) ?_ (.inl rfl)
      refine owk (wsl (t := 26) (.own 2) rfl rfl) ?_
      refine o1 (bld pi42 zi42 (.c rfl rfl .n) rfl) ?_
      refine e1 (av := .own 3) (sbs1d mi37 (L rfl) (Le rfl) rfl .g (.c rfl (.o (k := 2) rfl rfl (.c rfl (.n)))) (by decide)) ?_
      refine e1 (av := .own 4) (sappd (k := 0) (j := 3) rfl rfl rfl rfl rfl rfl mi37 (L rfl) (by first | omega | (simp only [List.length_cons, List.length_nil, List.length_append]; omega) | (simp; omega)) (by first | omega | (simp only [List.length_cons, List.length_nil, List.length_append]; omega) | (simp; omega))) ?_
      refine owk (wnorm (.c rfl (.c (o := .box _ _) rfl (.c rfl (.c rfl (.c (o := .arr _ _ _ _) rfl (.n)))))) rfl) ?_
      refine o1 (asn rfl) ?_
      refine onil ?_
      refine xbn ?_
      refine xthn ?_
      refine creg ?_
      refine o1 (iadd rfl rfl (by first | omega | (simp only [List.length_cons, List.length_nil, List.length_append]; omega) | (simp; omega)) (by first | omega | (simp only [List.length_cons, List.length_nil, List.length_append]; omega) | (simp; omega))) ?_
      refine o1 (mv rfl) ?_
      refine onil ?_
      refine xlq (i + 1) (by omega) (by first | omega | (simp only []; omega)) (weak [4] (by decide) (hk hH rfl) (by repeat (first | exact .n | refine .c rfl (by first | rfl | exact arq (by rw [delC_step (by omega), if_pos (isDel_t b (ix KRLSzSz.z a (i : Int)) c2)]) | exact arq (by rw [delC_step (by omega), if_neg (isDel_f b (ix KRLSzSz.z a (i : Int)) c2), List.append_nil])) ?_)) (by repeat (first | exact .n | refine .c rfl (by first | rfl) ?_)))
    · try simp only [q1, q2, q3, q4, q5, q6, q7, q8, q9, q10, q11, q12, q13, q14, q15, q16, q17] at c2
      refine cskip ?_
      refine xbn ?_
      refine xthn ?_
      refine creg ?_
      refine o1 (iadd rfl rfl (by first | omega | (simp only [List.length_cons, List.length_nil, List.length_append]; omega) | (simp; omega)) (by first | omega | (simp only [List.length_cons, List.length_nil, List.length_append]; omega) | (simp; omega))) ?_
      refine o1 (mv rfl) ?_
      refine onil ?_
      refine xlq (i + 1) (by omega) (by first | omega | (simp only []; omega)) (weak [0] (by decide) (hk hH rfl) (by repeat (first | exact .n | refine .c rfl (by first | rfl | exact arq (by rw [delC_step (by omega), if_pos (isDel_t b (ix KRLSzSz.z a (i : Int)) c2)]) | exact arq (by rw [delC_step (by omega), if_neg (isDel_f b (ix KRLSzSz.z a (i : Int)) c2), List.append_nil])) ?_)) (by repeat (first | exact .n | refine .c rfl (by first | rfl) ?_)))
  · try simp only [q1, q2, q3, q4, q5, q6, q7, q8, q9, q10, q11, q12, q13, q14, q15, q16, q17] at c1
    refine cexit ?_
    refine xthe ?_
    refine xle ?_
    refine xbh ?_
    refine xthn ?_
    refine cseq ?_
    refine cseq ?_
    refine creg ?_
    refine o1 (mv rfl) ?_
    refine ofact (t := 31) rfl fun hl2 => ?_
    refine o1 (lenl rfl li26) ?_
    refine o1 (mv rfl) ?_
    refine onil ?_
    refine xthn ?_
    refine cblock ?_
    refine clk (ι := Nat) (.c 0 rfl (.c 31 rfl (.c 32 rfl (.n)))) (fun i r => (33, .c (.i .i64) ((i : Int))) :: (5, .own 0) :: r) (fun i r => r.set 0 (.arr true 42 KROLSzSz (delC b a ++ setC a (b.take i)))) (fun i => i ≤ b.length) (fun i => b.length - i) 0 (by simp) (weak [0] (by decide) (hk hH rfl) (by repeat (first | exact .n | refine .c rfl (by first | rfl | exact arq (by rw [List.take_of_length_le (by omega)]; simp [setC])) ?_)) (by repeat (first | exact .n | refine .c rfl (by first | rfl) ?_))) ?_
    rintro i i1
    try simp only [] at i1
    refine cseq ?_
    refine creg ?_
    refine o1 (ibin rfl rfl rfl) ?_
    refine onil ?_
    refine xthn ?_
    refine cseq ?_
    refine ccond rfl (fun c3 => ?_) (fun c3 => ?_)
    · try simp only [q1, q2, q3, q4, q5, q6, q7, q8, q9, q10, q11, q12, q13, q14, q15, q16, q17] at c3
      refine cskip ?_
      refine xthn ?_
      refine cseq ?_
      refine cblock ?_
      refine cseq ?_
      refine creg ?_
      refine o1 (ixl rfl rfl li26 rfl (by first | omega | (simp only [List.length_cons, List.length_nil, List.length_append]; omega) | (simp; omega)) (by first | omega | (simp only [List.length_cons, List.length_nil, List.length_append]; omega) | (simp; omega))) ?_
      refine o1 (ldrn rfl ti94 (Le rfl)) ?_
      refine e1 (av := .bp 1 0) (salloc zi94) ?_
      refine owk (wnorm (.c (o := .arr _ _ _ _) rfl (.c (o := .box _ _) rfl (.n))) rfl) ?_
      refine e0 (sstn rfl rfl rfl rfl (Le rfl) ti94) ?_
      refine onil ?_
      refine xthn ?_
      refine cseq ?_
      refine creg ?_
      refine o1 (mv rfl) ?_
      refine o1 (fab rfl fi94_0) ?_
      refine o1 (ldb rfl rfl rfl ti40) ?_
      refine ce c_impl_find (_, _) [] [] (.c rfl (.c (.e rfl)) (.c rfl (.c (.e rfl)) (.n))) (by first | trivial | assumption | omega | (simp only []; omega) | (refine ?_; omega) | (constructor <;> omega) | (refine ⟨?_, ?_⟩ <;> (first | assumption | omega | (simp; omega)))) (by decide) (by decide) (.n) rfl (.inl rfl) ?_ (.inl rfl)
      refine o1 (asn rfl) ?_
      refine onil ?_
      refine xthn ?_
      refine cseq ?_
      have fl := findI_lt a (ix KRLSzSz.z b (i : Int)).1
      unfold findI at fl
      refine cregh [] mixed ?_
      refine v1 (hi := rfl) 0 (fun _ => mv rfl) ?_
      refine v1 (hi := rfl) 1 (fun _ => ibin rfl rfl rfl) ?_
      refine v1 (hi := rfl) 2 (fun _ => mv rfl) ?_
      refine hcase (t := 43) rfl (fun c4 => ?_) (fun c4 => ?_)
      · try simp only [q1, q2, q3, q4, q5, q6, q7, q8, q9, q10, q11, q12, q13, q14, q15, q16, q17] at c4
        refine vs 3 rfl ?_
        refine vs 4 rfl ?_
        refine vs 5 rfl ?_
        refine vs 6 rfl ?_
        refine vs 7 rfl ?_
        refine vs 8 rfl ?_
        refine vs 9 rfl ?_
        refine vs 10 rfl ?_
        refine v1 (hi := rfl) 11 (fun _ => pickT rfl rfl) ?_
        refine h9 ?_
        refine xthn ?_
        refine ccT rfl ?_
        have dl := delC_len (b := b) (l := a)
        have sl := setC_len (b := a) (l := b.take i)
        simp only [List.length_take] at sl
        refine cregh [0] mixed ?_
        refine v1 (hi := rfl) 0 (fun _ => mv rfl) ?_
        refine v1 (hi := rfl) 1 (fun _ => fab rfl fi94_0) ?_
        refine v1 (hi := rfl) 2 (fun _ => ldb rfl rfl rfl ti40) ?_
        refine v1 (hi := rfl) 4 (fun _ => fab rfl fi94_1) ?_
        refine v1 (hi := rfl) 5 (fun _ => ldb rfl rfl rfl ti9) ?_
        refine hn1 (n := 3) ?_
        refine xce (hi := rfl) c_slices_Clone_string_string _ [] [] [0, 2] (.c rfl (.c (.e rfl)) (.n)) (by exact hx.2.2.2 _ (ix_mem (z := KRLSzSz.z) (i := i) (by omega))) (by decide) (by decide) (.n) rfl (.inl rfl) ?_ (.inl rfl)
        refine hsl (t := 56) (.own 2) rfl rfl ?_
        refine v1 (hi := rfl) 6 (fun _ => bld pi42 zi42 (.c rfl rfl (.c rfl rfl (.c rfl rfl .n))) rfl) ?_
        refine hn1 (n := 7) ?_
        refine x1 (hi := rfl) (av := .own 3) [0, 2, 3] (sbs1d mi37 (L rfl) (Le rfl) rfl .g (.c rfl (.o (k := 2) rfl rfl (.c rfl (.n)))) (by decide)) ?_
        refine hnorm (.c (o := .arr _ _ _ _) rfl (.c (o := .box _ _) rfl (.c rfl (.c (o := .arr _ _ _ _) rfl (.n))))) rfl ?_
        refine hn1 (n := 8) ?_
        refine x1 (hi := rfl) (av := .own 4) [0, 2, 3] (sappd (k := 0) (j := 3) rfl rfl rfl rfl rfl rfl mi37 (L rfl) (by first | omega | (simp only [List.length_cons, List.length_nil, List.length_append]; omega) | (simp; omega)) (by first | omega | (simp only [List.length_cons, List.length_nil, List.length_append]; omega) | (simp; omega))) ?_
        refine v1 (hi := rfl) 9 (fun _ => asn rfl) ?_
        refine h9 ?_
        refine xbn ?_
        refine xthn ?_
        refine creg ?_
        refine o1 (iadd rfl rfl (by first | omega | (simp only [List.length_cons, List.length_nil, List.length_append]; omega) | (simp; omega)) (by first | omega | (simp only [List.length_cons, List.length_nil, List.length_append]; omega) | (simp; omega))) ?_
        refine o1 (mv rfl) ?_
        refine onil ?_
        refine xlq (i + 1) (by omega) (by first | omega | (simp only []; omega)) (weak [4] (by decide) (hk hH rfl) (by repeat (first | exact .n | refine .c rfl (by first | rfl | exact arq (by rw [setC_step (by omega), if_pos (isSet_1 a (ix KRLSzSz.z b (i : Int)) c4), ← List.append_assoc]) | exact arq (by rw [setC_step (by omega), if_pos (isSet_2 a (ix KRLSzSz.z b (i : Int)) c5), ← List.append_assoc]) | exact arq (by rw [setC_step (by omega), if_neg (isSet_0 a (ix KRLSzSz.z b (i : Int)) c4 c5), List.append_nil])) ?_)) (by repeat (first | exact .n | refine .c rfl (by first | rfl) ?_)))
      · try simp only [q1, q2, q3, q4, q5, q6, q7, q8, q9, q10, q11, q12, q13, q14, q15, q16, q17] at c4
        refine vg (hi := rfl) 3 (fun _ => mv rfl) ?_
        refine vg (hi := rfl) 4 (fun _ => mv rfl) ?_
        refine vg (hi := rfl) 5 (fun _ => ixl rfl rfl li26 rfl (by first | omega | (simp only [List.length_cons, List.length_nil, List.length_append]; omega) | (simp; omega)) (by first | omega | (simp only [List.length_cons, List.length_nil, List.length_append]; omega) | (simp; omega))) ?_
        refine vg (hi := rfl) 6 (fun _ => far rfl fi94_1 (Le rfl)) ?_
        refine vg (hi := rfl) 7 (fun _ => ldr rfl ti9) ?_
        refine vg (hi := rfl) 8 (fun _ => fab rfl fi94_1) ?_
        refine vg (hi := rfl) 9 (fun _ => ldb rfl rfl rfl ti9) ?_
        refine vg (hi := rfl) 10 (fun _ => sbin rfl rfl rfl) ?_
        refine v1 (hi := rfl) 11 (fun _ => pickF rfl rfl) ?_
        refine h9 ?_
        refine xthn ?_
        refine ccond rfl (fun c5 => ?_) (fun c5 => ?_)
        · try simp only [q1, q2, q3, q4, q5, q6, q7, q8, q9, q10, q11, q12, q13, q14, q15, q16, q17] at c5
          have dl := delC_len (b := b) (l := a)
          have sl := setC_len (b := a) (l := b.take i)
          simp only [List.length_take] at sl
          refine cregh [0] mixed ?_
          refine v1 (hi := rfl) 0 (fun _ => mv rfl) ?_
          refine v1 (hi := rfl) 1 (fun _ => fab rfl fi94_0) ?_
          refine v1 (hi := rfl) 2 (fun _ => ldb rfl rfl rfl ti40) ?_
          refine v1 (hi := rfl) 4 (fun _ => fab rfl fi94_1) ?_
          refine v1 (hi := rfl) 5 (fun _ => ldb rfl rfl rfl ti9) ?_
          refine hn1 (n := 3) ?_
          refine xce (hi := rfl) c_slices_Clone_string_string _ [] [] [0, 2] (.c rfl (.c (.e rfl)) (.n)) (by exact hx.2.2.2 _ (ix_mem (z := KRLSzSz.z) (i := i) (by omega))) (by decide) (by decide) (.n) rfl (.inl rfl) ?_ (.inl rfl)
          refine hsl (t := 56) (.own 2) rfl rfl ?_
          refine v1 (hi := rfl) 6 (fun _ => bld pi42 zi42 (.c rfl rfl (.c rfl rfl (.c rfl rfl .n))) rfl) ?_
          refine hn1 (n := 7) ?_
          refine x1 (hi := rfl) (av := .own 3) [0, 2, 3] (sbs1d mi37 (L rfl) (Le rfl) rfl .g (.c rfl (.o (k := 2) rfl rfl (.c rfl (.n)))) (by decide)) ?_
          refine hnorm (.c (o := .arr _ _ _ _) rfl (.c (o := .box _ _) rfl (.c rfl (.c (o := .arr _ _ _ _) rfl (.n))))) rfl ?_
          refine hn1 (n := 8) ?_
          refine x1 (hi := rfl) (av := .own 4) [0, 2, 3] (sappd (k := 0) (j := 3) rfl rfl rfl rfl rfl rfl mi37 (L rfl) (by first | omega | (simp only [List.length_cons, List.length_nil, List.length_append]; omega) | (simp; omega)) (by first | omega | (simp only [List.length_cons, List.length_nil, List.length_append]; omega) | (simp; omega))) ?_
          refine v1 (hi := rfl) 9 (fun _ => asn rfl) ?_
          refine h9 ?_
          refine xbn ?_
          refine xthn ?_
          refine creg ?_
          refine o1 (iadd rfl rfl (by first | omega | (simp only [List.length_cons, List.length_nil, List.length_append]; omega) | (simp; omega)) (by first | omega | (simp only [List.length_cons, List.length_nil, List.length_append]; omega) | (simp; omega))) ?_
          refine o1 (mv rfl) ?_
          refine onil ?_
          refine xlq (i + 1) (by omega) (by first | omega | (simp only []; omega)) (weak [4] (by decide) (hk hH rfl) (by repeat (first | exact .n | refine .c rfl (by first | rfl | exact arq (by rw [setC_step (by omega), if_pos (isSet_1 a (ix KRLSzSz.z b (i : Int)) c4), ← List.append_assoc]) | exact arq (by rw [setC_step (by omega), if_pos (isSet_2 a (ix KRLSzSz.z b (i : Int)) c5), ← List.append_assoc]) | exact arq (by rw [setC_step (by omega), if_neg (isSet_0 a (ix KRLSzSz.z b (i : Int)) c4 c5), List.append_nil])) ?_)) (by repeat (first | exact .n | refine .c rfl (by first | rfl) ?_)))
        · try simp only [q1, q2, q3, q4, q5, q6, q7, q8, q9, q10, q11, q12, q13, q14, q15, q16, q17] at c5
          refine cskip ?_
          refine xbn ?_
          refine xthn ?_
          refine creg ?_
          refine o1 (iadd rfl rfl (by first | omega | (simp only [List.length_cons, List.length_nil, List.length_append]; omega) | (simp; omega)) (by first | omega | (simp only [List.length_cons, List.length_nil, List.length_append]; omega) | (simp; omega))) ?_
          refine o1 (mv rfl) ?_
          refine onil ?_
          refine xlq (i + 1) (by omega) (by first | omega | (simp only []; omega)) (weak [0] (by decide) (hk hH rfl) (by repeat (first | exact .n | refine .c rfl (by first | rfl | exact arq (by rw [setC_step (by omega), if_pos (isSet_1 a (ix KRLSzSz.z b (i : Int)) c4), ← List.append_assoc]) | exact arq (by rw [setC_step (by omega), if_pos (isSet_2 a (ix KRLSzSz.z b (i : Int)) c5), ← List.append_assoc]) | exact arq (by rw [setC_step (by omega), if_neg (isSet_0 a (ix KRLSzSz.z b (i : Int)) c4 c5), List.append_nil])) ?_)) (by repeat (first | exact .n | refine .c rfl (by first | rfl) ?_)))
    · try simp only [q1, q2, q3, q4, q5, q6, q7, q8, q9, q10, q11, q12, q13, q14, q15, q16, q17] at c3
      refine cexit ?_
      refine xthe ?_
      refine xle ?_
      refine xbh ?_
      refine xthn ?_
      refine cseq ?_
      refine creg ?_
      refine o1 (mv rfl) ?_
      refine o1 (asn rfl) ?_
      refine onil ?_
      refine xthn ?_
      refine cret ?_
      refine xwk (wnorm (.c (o := .arr _ _ _ _) rfl (.n)) rfl) ?_
      refine retg (bs := [.own 0]) (ob' := [.arr true 42 KROLSzSz (diffI a b)]) [0] rfl (.t rfl (.n)) (by decide) (hk hH rfl) (.c rfl (arq ?_) (.n)) (lc rfl rfl) rfl
      all_goals first | rfl | (show _ = delC b a ++ setC a b; rw [List.take_of_length_le (by omega)])

theorem c_impl_DiffOf : Fe Go.Proofs.Try.prog 19 (ι := Leafs × Leafs) (fun | (a, b) => [.c (.l KRLSzSz) a, .c (.l KRLSzSz) b]) (fun | (a, b) => []) (fun | (a, b) => True) (fun | (a, b) => (.tup [.own 0, .c .b (cfgDiff a b).2], [.arr true 42 KROLSzSz (cfgDiff a b).1])) := by
  refine fnE (n := 17) Go.Proofs.Try.func19 rfl rfl (ent Go.Proofs.Try.func19 (by kernel_rfl) rfl) ?_
  rintro ⟨a, b⟩ hx
  refine ⟨Le rfl, fun w0 S0 H Z hH => ?_⟩
  try simp only [] at hx
  refine cseq ?_
  refine creg ?_
  refine o1 (asn rfl) ?_
  refine o1 (asn rfl) ?_
  refine onil ?_
  refine xthn ?_
  refine cseq ?_
  refine cseq ?_
  refine creg ?_
  refine o1 (mv rfl) ?_
  refine ce c_impl_GoodConfig _ [] [] (.c rfl (.c (.e rfl)) (.n)) (by first | trivial | assumption | omega | (simp only []; omega) | (refine ?_; omega) | (constructor <;> omega) | (refine ⟨?_, ?_⟩ <;> (first | assumption | omega | (simp; omega)))) (by decide) (by decide) (.n) rfl (.inl rfl) ?_ (.inl rfl)
  refine o1 (unot rfl) ?_
  refine o1 (mv rfl) ?_
  refine ocase (t := 9) rfl (fun c1 => ?_) (fun c1 => ?_)
  · try simp only [q1, q2, q3, q4, q5, q6, q7, q8, q9, q10, q11, q12, q13, q14, q15, q16, q17] at c1
    refine os rfl ?_
    refine os rfl ?_
    refine os rfl ?_
    refine o1 (pickT rfl rfl) ?_
    refine onil ?_
    refine xthn ?_
    refine ccT rfl ?_
    refine cseq ?_
    refine creg ?_
    refine o1 (asn rfl) ?_
    refine o1 (asn rfl) ?_
    refine onil ?_
    refine xthn ?_
    refine cret ?_
    refine xthr ?_
    refine xwk (wno (t := 4) true 42 KROLSzSz rfl) ?_
    refine retg (bs := [.own 0, .c .b (cfgDiff a b).2]) (ob' := [.arr true 42 KROLSzSz (cfgDiff a b).1]) [0] rfl (.t rfl (.t rfl (.n))) (by decide) (hk hH rfl) (.c rfl (arq ?_) (.n)) (lc rfl (lc (cq ?_) rfl)) rfl
    all_goals first | rfl | (simp_all [cfgDiff])
  · try simp only [q1, q2, q3, q4, q5, q6, q7, q8, q9, q10, q11, q12, q13, q14, q15, q16, q17] at c1
    refine og (mv rfl) ?_
    refine ce c_impl_GoodConfig _ [] [] (.c rfl (.c (.e rfl)) (.n)) (by first | trivial | assumption | omega | (simp only []; omega) | (refine ?_; omega) | (constructor <;> omega) | (refine ⟨?_, ?_⟩ <;> (first | assumption | omega | (simp; omega)))) (by decide) (by decide) (.n) rfl (.inl rfl) ?_ (wgd rfl rfl rfl)
    refine og (unot rfl) ?_
    refine o1 (pickF rfl rfl) ?_
    refine onil ?_
    refine xthn ?_
    refine ccond rfl (fun c2 => ?_) (fun c2 => ?_)
    · try simp only [q1, q2, q3, q4, q5, q6, q7, q8, q9, q10, q11, q12, q13, q14, q15, q16, q17] at c2
      refine cseq ?_
      refine creg ?_
      refine o1 (asn rfl) ?_
      refine o1 (asn rfl) ?_
      refine onil ?_
      refine xthn ?_
      refine cret ?_
      refine xthr ?_
      refine xwk (wno (t := 4) true 42 KROLSzSz rfl) ?_
      refine retg (bs := [.own 0, .c .b (cfgDiff a b).2]) (ob' := [.arr true 42 KROLSzSz (cfgDiff a b).1]) [0] rfl (.t rfl (.t rfl (.n))) (by decide) (hk hH rfl) (.c rfl (arq ?_) (.n)) (lc rfl (lc (cq ?_) rfl)) rfl
      all_goals first | rfl | (simp_all [cfgDiff])
    · try simp only [q1, q2, q3, q4, q5, q6, q7, q8, q9, q10, q11, q12, q13, q14, q15, q16, q17] at c2
      refine cskip ?_
      refine xthn ?_
      refine cseq ?_
      refine creg ?_
      refine o1 (mv rfl) ?_
      refine o1 (mv rfl) ?_
      refine ce c_impl_diffOf (_, _) [] [] (.c rfl (.c (.e rfl)) (.c rfl (.c (.e rfl)) (.n))) (by have g1 := good_len c1; have g2 := good_len c2; exact ⟨by omega, by omega, fun x h => by have := (path_len (good_mem c1 h).1).2; omega, fun x h => by have := (path_len (good_mem c2 h).1).2; omega⟩) (by decide) (by decide) (.n) rfl (.inl rfl) ?_ (.inl rfl)
      refine owk (wsl (t := 16) (.own 0) rfl rfl) ?_
      refine o1 (asn rfl) ?_
      refine o1 (asn rfl) ?_
      refine onil ?_
      refine xthn ?_
      refine cret ?_
      refine xwk (wnorm (.c (o := .arr _ _ _ _) rfl (.n)) rfl) ?_
      refine retg (bs := [.own 0, .c .b (cfgDiff a b).2]) (ob' := [.arr true 42 KROLSzSz (cfgDiff a b).1]) [0] rfl (.t rfl (.t rfl (.n))) (by decide) (hk hH rfl) (.c rfl (arq ?_) (.n)) (lc rfl (lc (cq ?_) rfl)) rfl
      all_goals first | rfl | (simp_all [cfgDiff])

end Go.Proofs.YtifpekpmnlcmoaaE
