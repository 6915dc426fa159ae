import Derived.Test.YtifpekpmnlcmoaaProg
import Derived.Test.YtifpekpmnlcmoaaE33
import Derived.Test.YtifpekpmnlcmoaaS1
set_option linter.unusedVariables false
set_option linter.unusedSimpArgs false
set_option maxRecDepth 100000
namespace Go.Proofs.YtifpekpmnlcmoaaE
open Go Go.RowKit Go.Shelf Go.Proofs
theorem ub4 : (Go.Proofs.Try.prog).underlying 4 = some .bool := by kernel_rfl

theorem flm_step {α β : Type} {z : α} {P : α → Bool} {f : α → β} {l : List α} {i : Nat} (h : i < l.length) (hp : P (ix z l (i : Int)) = true) : ((l.take i).filter P).map f ++ [f (ix z l (i : Int))] = ((l.take (i + 1)).filter P).map f := by
  rw [take_ix (z := z) h, List.filter_append, List.map_append]; simp [hp]
theorem flm_skip {α β : Type} {z : α} {P : α → Bool} {f : α → β} {l : List α} {i : Nat} (h : i < l.length) (hp : P (ix z l (i : Int)) = false) : ((l.take i).filter P).map f = ((l.take (i + 1)).filter P).map f := by
  rw [take_ix (z := z) h, List.filter_append, List.map_append]; simp [hp]
theorem flm_len {α β : Type} {P : α → Bool} {f : α → β} {l : List α} : ((l.filter P).map f).length ≤ l.length := by rw [List.length_map]; exact List.length_filter_le _ _
def delS (b l : Leafs) : List KROLSzSz.den := (l.filter fun x => decide (hasV b x.1 = [])).map fun x => (false, x.1, [], ())
def setS (a l : Leafs) : List KROLSzSz.den := (l.filter fun x => !decide (hasV a x.1 = x.2.1)).map fun x => (true, x.1, x.2.1, ())
theorem delS_len {b l : Leafs} : (delS b l).length ≤ l.length := flm_len
theorem setS_len {b l : Leafs} : (setS b l).length ≤ l.length := flm_len
theorem cmdT_bad {s : Bool} {p : StrS} {v : List UInt8} {u : Unit} (h : ¬ s = word v) : cmdT (s, p, v, u) = ([], false) := by
  have : cmdOK (s, p, v, u) = false := by
    cases s with
    | true =>
      have : word v = false := by cases hw : word v with | false => rfl | true => exact absurd hw.symm h
      simp [cmdOK, this]
    | false =>
      have : word v = true := by cases hw : word v with | true => rfl | false => exact absurd hw.symm h
      have h2 := (word_len this).1
      have : ¬ v = [] := by intro e; subst e; simp at h2
      simp [cmdOK, this]
  simp [cmdT, this]
theorem wdsT_step {p : StrS} {i : Nat} (h : i < p.length) : wdsT (p.take (i + 1)) = wdsT (p.take i) ++ (32 :: (ix KS.z p (i : Int)).1) := by
  rw [take_ix (z := KS.z) h, wdsT, List.flatMap_append]; simp [wdsT]

theorem c_spec_DeleteAt : Fe Go.Proofs.Try.prog 86 (ι := Leafs × StrS) (fun | (l, p) => [.c (.l KRLSzSz) l, .c (.l KS) p]) (fun | (l, p) => []) (fun | (l, p) => True) (fun | (l, p) => (.tup [.own 0, .c .b (cfgDel l p).2], [.arr false 94 KRLSzSz (cfgDel l p).1])) := by
  refine fnE (n := 40) Go.Proofs.Try.func86 rfl rfl (ent Go.Proofs.Try.func86 (by kernel_rfl) rfl) ?_
  rintro ⟨l, p⟩ hx
  refine ⟨Le rfl, fun w0 S0 H Z hH => ?_⟩
  try simp only [] at hx
  refine cseq ?_
  refine creg ?_
  refine o1 (asn rfl) ?_
  refine o1 (asn rfl) ?_
  refine onil ?_
  refine xthn ?_
  refine cseq ?_
  refine cseq ?_
  refine creg ?_
  refine o1 (mv rfl) ?_
  refine ce c_spec_GoodConfig _ [] [] (.c rfl (.c (.e rfl)) (.n)) (by first | trivial | assumption | omega | (simp only []; omega) | (refine ?_; omega) | (constructor <;> omega) | (refine ⟨?_, ?_⟩ <;> (first | assumption | omega | (simp; omega)))) (by decide) (by decide) (.n) rfl (.inl rfl) ?_ (.inl rfl)
  refine o1 (unot rfl) ?_
  refine o1 (mv rfl) ?_
  refine ocase (t := 12) rfl (fun c1 => ?_) (fun c1 => ?_)
  · try simp only [q1, q2, q3, q4, q5, q6, q7, q8, q9, q10, q11, q12, q13, q14, q15, q16, q17] at c1
    refine os rfl ?_
    refine os rfl ?_
    refine os rfl ?_
    refine o1 (pickT rfl rfl) ?_
    refine onil ?_
    refine xthn ?_
    refine ccT rfl ?_
    refine cseq ?_
    refine creg ?_
    refine o1 (asn rfl) ?_
    refine o1 (asn rfl) ?_
    refine onil ?_
    refine xthn ?_
    refine cret ?_
    refine xthr ?_
    refine xwk (wno (t := 4) false 94 KRLSzSz rfl) ?_
    refine retg (bs := [.own 0, .c .b (cfgDel l p).2]) (ob' := [.arr false 94 KRLSzSz (cfgDel l p).1]) [0] rfl (.t rfl (.t rfl (.n))) (by decide) (hk hH rfl) (.c rfl (arq ?_) (.n)) (lc rfl (lc (cq ?_) rfl)) rfl
    all_goals first | rfl | (simp [cfgDel, c1])
  · try simp only [q1, q2, q3, q4, q5, q6, q7, q8, q9, q10, q11, q12, q13, q14, q15, q16, q17] at c1
    refine og (mv rfl) ?_
    refine ce c_spec_l15Path _ [] [] (.c rfl (.c (.e rfl)) (.n)) (by first | trivial | assumption | omega | (simp only []; omega) | (refine ?_; omega) | (constructor <;> omega) | (refine ⟨?_, ?_⟩ <;> (first | assumption | omega | (simp; omega)))) (by decide) (by decide) (.n) rfl (.inl rfl) ?_ (wgd rfl rfl rfl)
    refine og (unot rfl) ?_
    refine o1 (pickF rfl rfl) ?_
    refine onil ?_
    refine xthn ?_
    refine ccond rfl (fun c2 => ?_) (fun c2 => ?_)
    · try simp only [q1, q2, q3, q4, q5, q6, q7, q8, q9, q10, q11, q12, q13, q14, q15, q16, q17] at c2
      refine cseq ?_
      refine creg ?_
      refine o1 (asn rfl) ?_
      refine o1 (asn rfl) ?_
      refine onil ?_
      refine xthn ?_
      refine cret ?_
      refine xthr ?_
      refine xwk (wno (t := 4) false 94 KRLSzSz rfl) ?_
      refine retg (bs := [.own 0, .c .b (cfgDel l p).2]) (ob' := [.arr false 94 KRLSzSz (cfgDel l p).1]) [0] rfl (.t rfl (.t rfl (.n))) (by decide) (hk hH rfl) (.c rfl (arq ?_) (.n)) (lc rfl (lc (cq ?_) rfl)) rfl
      all_goals first | rfl | (simp [cfgDel, c1, c2])
    · try simp only [q1, q2, q3, q4, q5, q6, q7, q8, q9, q10, q11, q12, q13, q14, q15, q16, q17] at c2
      refine cskip ?_
      refine xthn ?_
      refine cseq ?_
      refine creg ?_
      refine o1 (asn rfl) ?_
      refine onil ?_
      refine xthn ?_
      refine cseq ?_
      refine cseq ?_
      refine creg ?_
      refine o1 (mv rfl) ?_
      refine ce c_spec_l15Own _ [] [] (.c rfl (.c (.e rfl)) (.n)) (by exact ⟨by have := good_len c1; omega, fun x hx2 => by have := (path_len (good_mem c1 hx2).1).2; omega⟩) (by decide) (by decide) (.n) rfl (.inl rfl) ?_ (.inl rfl)
      refine ofact (t := 18) rfl fun hl1 => ?_
      refine o1 (lenl rfl li26) ?_
      refine o1 (mv rfl) ?_
      refine onil ?_
      refine xthn ?_
      refine cblock ?_
      refine cwk (wno (t := 6) false 94 KRLSzSz rfl) ?_
      refine clk (ι := Nat) (.c 0 rfl (.c 1 rfl (.c 18 rfl (.c 19 rfl (.n))))) (fun i r => (20, .c (.i .i64) ((i : Int))) :: (6, .own 0) :: r) (fun i r => r.set 0 (.arr false 94 KRLSzSz ((l.take i).filter fun x => !beg p x.1))) (fun i => i ≤ l.length) (fun i => l.length - i) 0 (by simp) (weak [0] (by decide) (hk hH rfl) (by repeat (first | exact .n | refine .c rfl (by first | rfl | exact arq rfl) ?_)) (by repeat (first | exact .n | refine .c rfl (by first | rfl) ?_))) ?_
      rintro i i0
      try simp only [] at i0
      have gl := good_len c1
      have fl := List.length_filter_le (fun x : KRLSzSz.den => !beg p x.1) (l.take i)
      simp only [List.length_take] at fl
      refine cseq ?_
      refine cwk (wnorm (.c (o := .arr _ _ _ _) rfl (.n)) rfl) ?_
      refine creg ?_
      refine o1 (ibin rfl rfl rfl) ?_
      refine onil ?_
      refine xthn ?_
      refine cseq ?_
      refine ccond rfl (fun c3 => ?_) (fun c3 => ?_)
      · try simp only [q1, q2, q3, q4, q5, q6, q7, q8, q9, q10, q11, q12, q13, q14, q15, q16, q17] at c3
        refine cskip ?_
        refine xthn ?_
        refine cseq ?_
        refine cblock ?_
        refine cseq ?_
        refine creg ?_
        refine o1 (ixl rfl rfl li26 rfl (by first | omega | (simp only [List.length_cons, List.length_nil, List.length_append]; omega) | (simp; omega)) (by first | omega | (simp only [List.length_cons, List.length_nil, List.length_append]; omega) | (simp; omega))) ?_
        refine o1 (ldrn rfl ti94 (Le rfl)) ?_
        refine e1 (av := .bp 1 0) (salloc zi94) ?_
        refine e0 (sstn rfl rfl rfl rfl (Le rfl) ti94) ?_
        refine onil ?_
        refine xthn ?_
        refine cseq ?_
        refine creg ?_
        refine o1 (mv rfl) ?_
        refine o1 (fab rfl fi94_0) ?_
        refine o1 (ldb rfl rfl rfl ti40) ?_
        refine ce c_spec_l15Begins (_, _) [] [] (.c rfl (.c (.e rfl)) (.c rfl (.c (.e rfl)) (.n))) (by first | trivial | assumption | omega | (simp only []; omega) | (refine ?_; omega) | (constructor <;> omega) | (refine ⟨?_, ?_⟩ <;> (first | assumption | omega | (simp; omega)))) (by decide) (by decide) (.n) rfl (.inl rfl) ?_ (.inl rfl)
        refine o1 (unot rfl) ?_
        refine onil ?_
        refine xthn ?_
        refine ccond rfl (fun c4 => ?_) (fun c4 => ?_)
        · try simp only [q1, q2, q3, q4, q5, q6, q7, q8, q9, q10, q11, q12, q13, q14, q15, q16, q17] at c4
          refine creg ?_
          refine o1 (mv rfl) ?_
          refine o1 (ldbn rfl rfl ti94 (Le rfl)) ?_
          refine e1 (av := .own 2) (sbs1 mi26 (L rfl) (Le rfl) rfl (.i (.c (.c (.n))))) ?_
          refine owk (wnorm (.c (o := .arr _ _ _ _) rfl (.c (o := .box _ _) rfl (.c (o := .arr _ _ _ _) rfl (.n)))) rfl) ?_
          refine e1 (av := .own 3) (sapp (k := 0) rfl rfl rfl (.o (j := 2) rfl rfl) mi26 (L rfl) (by first | omega | (simp only [List.length_cons, List.length_nil, List.length_append]; omega) | (simp; omega)) (by first | omega | (simp only [List.length_cons, List.length_nil, List.length_append]; omega) | (simp; omega))) ?_
          refine o1 (asn rfl) ?_
          refine onil ?_
          refine xbn ?_
          refine xthn ?_
          refine creg ?_
          refine o1 (iadd rfl rfl (by first | omega | (simp only [List.length_cons, List.length_nil, List.length_append]; omega) | (simp; omega)) (by first | omega | (simp only [List.length_cons, List.length_nil, List.length_append]; omega) | (simp; omega))) ?_
          refine o1 (mv rfl) ?_
          refine onil ?_
          refine xlq (i + 1) (by omega) (by first | omega | (simp only []; omega)) (weak [3] (by decide) (hk hH rfl) (by repeat (first | exact .n | refine .c rfl (by first | rfl | exact arq (flt_step (by omega) (by simp_all)) | exact arq (flt_skip (by omega) (by simp_all))) ?_)) (by repeat (first | exact .n | refine .c rfl (by first | rfl) ?_)))
        · try simp only [q1, q2, q3, q4, q5, q6, q7, q8, q9, q10, q11, q12, q13, q14, q15, q16, q17] at c4
          refine cskip ?_
          refine xbn ?_
          refine xthn ?_
          refine creg ?_
          refine o1 (iadd rfl rfl (by first | omega | (simp only [List.length_cons, List.length_nil, List.length_append]; omega) | (simp; omega)) (by first | omega | (simp only [List.length_cons, List.length_nil, List.length_append]; omega) | (simp; omega))) ?_
          refine o1 (mv rfl) ?_
          refine onil ?_
          refine xlq (i + 1) (by omega) (by first | omega | (simp only []; omega)) (weak [0] (by decide) (hk hH rfl) (by repeat (first | exact .n | refine .c rfl (by first | rfl | exact arq (flt_step (by omega) (by simp_all)) | exact arq (flt_skip (by omega) (by simp_all))) ?_)) (by repeat (first | exact .n | refine .c rfl (by first | rfl) ?_)))
      · try simp only [q1, q2, q3, q4, q5, q6, q7, q8, q9, q10, q11, q12, q13, q14, q15, q16, q17] at c3
        refine cexit ?_
        refine xthe ?_
        refine xle ?_
        refine xbh ?_
        refine xthn ?_
        refine cseq ?_
        refine cseq ?_
        have e : ((l.take i).filter fun x => !beg p x.1) = delIn l p := by rw [List.take_of_length_le (by omega)]; rfl
        refine creg ?_
        refine o1 (mv rfl) ?_
        refine ofacto (k := 0) rfl fun hl2 => ?_
        refine o1 (leno rfl rfl li26) ?_
        refine o1 (mv rfl) ?_
        refine ofact (t := 36) rfl fun hl3 => ?_
        refine o1 (lenl rfl li26) ?_
        refine o1 (ibin rfl rfl rfl) ?_
        refine onil ?_
        refine xthn ?_
        refine ccond rfl (fun c5 => ?_) (fun c5 => ?_)
        · try simp only [q1, q2, q3, q4, q5, q6, q7, q8, q9, q10, q11, q12, q13, q14, q15, q16, q17] at c5
          have c6 : (delIn l p).length = l.length := by rw [← e]; omega
          refine cseq ?_
          refine creg ?_
          refine o1 (asn rfl) ?_
          refine o1 (asn rfl) ?_
          refine onil ?_
          refine xthn ?_
          refine cret ?_
          refine xthr ?_
          refine xwk (wno (t := 4) false 94 KRLSzSz rfl) ?_
          refine retg (bs := [.own 0, .c .b (cfgDel l p).2]) (ob' := [.arr false 94 KRLSzSz (cfgDel l p).1]) [1] rfl (.t rfl (.t rfl (.n))) (by decide) (hk hH rfl) (.c rfl (arq ?_) (.n)) (lc rfl (lc (cq ?_) rfl)) rfl
          all_goals first | rfl | (simp [cfgDel, c1, c2, c6])
        · try simp only [q1, q2, q3, q4, q5, q6, q7, q8, q9, q10, q11, q12, q13, q14, q15, q16, q17] at c5
          have c6 : ¬ (delIn l p).length = l.length := by rw [← e]; omega
          refine cskip ?_
          refine xthn ?_
          refine cseq ?_
          refine creg ?_
          refine o1 (mv rfl) ?_
          refine o1 (asn rfl) ?_
          refine o1 (asn rfl) ?_
          refine onil ?_
          refine xthn ?_
          refine cret ?_
          refine retg (bs := [.own 0, .c .b (cfgDel l p).2]) (ob' := [.arr false 94 KRLSzSz (cfgDel l p).1]) [0] rfl (.t rfl (.t rfl (.n))) (by decide) (hk hH rfl) (.c rfl (arq ?_) (.n)) (lc rfl (lc (cq ?_) rfl)) rfl
          all_goals first | rfl | (first | (simp [cfgDel, c1, c2, c6]; done) | (rw [e]; simp [cfgDel, c1, c2, c6]))

theorem c_spec_l15Diff : Fe Go.Proofs.Try.prog 80 (ι := Leafs × Leafs) (fun | (a, b) => [.c (.l KRLSzSz) a, .c (.l KRLSzSz) b]) (fun | (a, b) => []) (fun | (a, b) => a.length ≤ 1000 ∧ b.length ≤ 1000 ∧ (∀ x ∈ a, x.1.length ≤ 1048576) ∧ ∀ x ∈ b, x.1.length ≤ 1048576) (fun | (a, b) => (.c (.l KROLSzSz) (delS b a ++ setS a b), [])) := by
  refine fnE (n := 55) Go.Proofs.Try.func80 rfl rfl (ent Go.Proofs.Try.func80 (by kernel_rfl) rfl) ?_
  rintro ⟨a, b⟩ hx
  refine ⟨Le rfl, fun w0 S0 H Z hH => ?_⟩
  try simp only [] at hx
  refine cseq ?_
  refine creg ?_
  refine o1 (asn rfl) ?_
  refine onil ?_
  refine xthn ?_
  refine cseq ?_
  refine creg ?_
  refine o1 (asn rfl) ?_
  refine onil ?_
  refine xthn ?_
  refine cseq ?_
  refine cseq ?_
  refine creg ?_
  refine o1 (mv rfl) ?_
  refine ofact (t := 10) rfl fun hl1 => ?_
  refine o1 (lenl rfl li26) ?_
  refine o1 (mv rfl) ?_
  refine onil ?_
  refine xthn ?_
  refine cblock ?_
  refine cwk (wno (t := 5) true 42 KROLSzSz rfl) ?_
  refine clk (ι := Nat) (.c 0 rfl (.c 1 rfl (.c 10 rfl (.c 11 rfl (.n))))) (fun i r => (12, .c (.i .i64) ((i : Int))) :: (5, .own 0) :: r) (fun i r => r.set 0 (.arr true 42 KROLSzSz (delS b (a.take i)))) (fun i => i ≤ a.length) (fun i => a.length - i) 0 (by simp) (weak [0] (by decide) (hk hH rfl) (by repeat (first | exact .n | refine .c rfl (by first | rfl | exact arq rfl) ?_)) (by repeat (first | exact .n | refine .c rfl (by first | rfl) ?_))) ?_
  rintro i i0
  try simp only [] at i0
  refine cseq ?_
  refine creg ?_
  refine o1 (ibin rfl rfl rfl) ?_
  refine onil ?_
  refine xthn ?_
  refine cseq ?_
  refine ccond rfl (fun c1 => ?_) (fun c1 => ?_)
  · try simp only [q1, q2, q3, q4, q5, q6, q7, q8, q9, q10, q11, q12, q13, q14, q15, q16, q17] at c1
    refine cskip ?_
    refine xthn ?_
    refine cseq ?_
    refine cblock ?_
    refine cseq ?_
    refine creg ?_
    refine o1 (ixl rfl rfl li26 rfl (by first | omega | (simp only [List.length_cons, List.length_nil, List.length_append]; omega) | (simp; omega)) (by first | omega | (simp only [List.length_cons, List.length_nil, List.length_append]; omega) | (simp; omega))) ?_
    refine o1 (ldrn rfl ti94 (Le rfl)) ?_
    refine e1 (av := .bp 1 0) (salloc zi94) ?_
    refine e0 (sstn rfl rfl rfl rfl (Le rfl) ti94) ?_
    refine onil ?_
    refine xthn ?_
    refine cseq ?_
    refine creg ?_
    refine o1 (mv rfl) ?_
    refine o1 (fab rfl fi94_0) ?_
    refine o1 (ldb rfl rfl rfl ti40) ?_
    refine ce c_spec_l15Has (_, _) [] [] (.c rfl (.c (.e rfl)) (.c rfl (.c (.e rfl)) (.n))) (by first | trivial | assumption | omega | (simp only []; omega) | (refine ?_; omega) | (constructor <;> omega) | (refine ⟨?_, ?_⟩ <;> (first | assumption | omega | (simp; omega)))) (by decide) (by decide) (.n) rfl (.inl rfl) ?_ (.inl rfl)
    refine owk (wnorm (.c (o := .arr _ _ _ _) rfl (.c (o := .box _ _) rfl (.n))) rfl) ?_
    refine o1 (sbin rfl rfl rfl) ?_
    refine onil ?_
    refine xthn ?_
    refine ccond rfl (fun c2 => ?_) (fun c2 => ?_)
    · try simp only [q1, q2, q3, q4, q5, q6, q7, q8, q9, q10, q11, q12, q13, q14, q15, q16, q17] at c2
      have dl := delS_len (b := b) (l := a.take i)
      simp only [List.length_take] at dl
      have hq := hx.2.2.1 _ (ix_mem (z := KRLSzSz.z) (i := i) (show i < a.length by omega))
      refine creg ?_
      refine o1 (mv rfl) ?_
      refine e1 (av := .own 2) (sbs0 mi40) ?_
      refine o1 (fab rfl fi94_0) ?_
      refine o1 (ldb rfl rfl rfl ti40) ?_
      refine e1 (av := .own 3) (sapp (k := 2) rfl rfl rfl .c mi40 (L rfl) (by first | omega | (simp only [List.length_cons, List.length_nil, List.length_append]; omega) | (simp; omega)) (by first | omega | (simp only [List.length_cons, List.length_nil, List.length_append]; omega) | (simp; omega))) ?_
      refine o1 (bld pi42 zi42 (.c rfl rfl .n) rfl) ?_
      refine e1 (av := .own 4) (sbs1d mi37 (L rfl) (Le rfl) rfl .g (.c rfl (.o (k := 3) rfl rfl (.c rfl (.n)))) (by decide)) ?_
      refine e1 (av := .own 5) (sappd (k := 0) (j := 4) rfl rfl rfl rfl rfl rfl mi37 (L rfl) (by first | omega | (simp only [List.length_cons, List.length_nil, List.length_append]; omega) | (simp; omega)) (by first | omega | (simp only [List.length_cons, List.length_nil, List.length_append]; omega) | (simp; omega))) ?_
      refine owk (wnorm (.c rfl (.c (o := .box _ _) rfl (.c rfl (.c rfl (.c rfl (.c (o := .arr _ _ _ _) rfl (.n))))))) rfl) ?_
      refine o1 (asn rfl) ?_
      refine onil ?_
      refine xbn ?_
      refine xthn ?_
      refine creg ?_
      refine o1 (iadd rfl rfl (by first | omega | (simp only [List.length_cons, List.length_nil, List.length_append]; omega) | (simp; omega)) (by first | omega | (simp only [List.length_cons, List.length_nil, List.length_append]; omega) | (simp; omega))) ?_
      refine o1 (mv rfl) ?_
      refine onil ?_
      refine xlq (i + 1) (by omega) (by first | omega | (simp only []; omega)) (weak [5] (by decide) (hk hH rfl) (by repeat (first | exact .n | refine .c rfl (by first | rfl | exact arq (flm_step (z := KRLSzSz.z) (f := (fun x : KRLSzSz.den => ((false, x.1, [], ()) : KROLSzSz.den))) (by omega) (decide_eq_true c2)) | exact arq (flm_skip (z := KRLSzSz.z) (f := (fun x : KRLSzSz.den => ((false, x.1, [], ()) : KROLSzSz.den))) (by omega) (decide_eq_false c2))) ?_)) (by repeat (first | exact .n | refine .c rfl (by first | rfl) ?_)))
    · try simp only [q1, q2, q3, q4, q5, q6, q7, q8, q9, q10, q11, q12, q13, q14, q15, q16, q17] at c2
      refine cskip ?_
      refine xbn ?_
      refine xthn ?_
      refine creg ?_
      refine o1 (iadd rfl rfl (by first | omega | (simp only [List.length_cons, List.length_nil, List.length_append]; omega) | (simp; omega)) (by first | omega | (simp only [List.length_cons, List.length_nil, List.length_append]; omega) | (simp; omega))) ?_
      refine o1 (mv rfl) ?_
      refine onil ?_
      refine xlq (i + 1) (by omega) (by first | omega | (simp only []; omega)) (weak [0] (by decide) (hk hH rfl) (by repeat (first | exact .n | refine .c rfl (by first | rfl | exact arq (flm_step (z := KRLSzSz.z) (f := (fun x : KRLSzSz.den => ((false, x.1, [], ()) : KROLSzSz.den))) (by omega) (decide_eq_true c2)) | exact arq (flm_skip (z := KRLSzSz.z) (f := (fun x : KRLSzSz.den => ((false, x.1, [], ()) : KROLSzSz.den))) (by omega) (decide_eq_false c2))) ?_)) (by repeat (first | exact .n | refine .c rfl (by first | rfl) ?_)))
  · try simp only [q1, q2, q3, q4, q5, q6, q7, q8, q9, q10, q11, q12, q13, q14, q15, q16, q17] at c1
    refine cexit ?_
    refine xthe ?_
    refine xle ?_
    refine xbh ?_
    refine xthn ?_
    refine cseq ?_
    refine cseq ?_
    refine creg ?_
    refine o1 (mv rfl) ?_
    refine ofact (t := 30) rfl fun hl2 => ?_
    refine o1 (lenl rfl li26) ?_
    refine o1 (mv rfl) ?_
    refine onil ?_
    refine xthn ?_
    refine cblock ?_
    refine clk (ι := Nat) (.c 0 rfl (.c 30 rfl (.c 31 rfl (.n)))) (fun i r => (32, .c (.i .i64) ((i : Int))) :: (5, .own 0) :: r) (fun i r => r.set 0 (.arr true 42 KROLSzSz (delS b a ++ setS a (b.take i)))) (fun i => i ≤ b.length) (fun i => b.length - i) 0 (by simp) (weak [0] (by decide) (hk hH rfl) (by repeat (first | exact .n | refine .c rfl (by first | rfl | exact arq (by rw [List.take_of_length_le (by omega)]; simp [setS])) ?_)) (by repeat (first | exact .n | refine .c rfl (by first | rfl) ?_))) ?_
    rintro i i1
    try simp only [] at i1
    refine cseq ?_
    refine creg ?_
    refine o1 (ibin rfl rfl rfl) ?_
    refine onil ?_
    refine xthn ?_
    refine cseq ?_
    refine ccond rfl (fun c3 => ?_) (fun c3 => ?_)
    · try simp only [q1, q2, q3, q4, q5, q6, q7, q8, q9, q10, q11, q12, q13, q14, q15, q16, q17] at c3
      refine cskip ?_
      refine xthn ?_
      refine cseq ?_
      refine cblock ?_
      refine cseq ?_
      refine creg ?_
      refine o1 (ixl rfl rfl li26 rfl (by first | omega | (simp only [List.length_cons, List.length_nil, List.length_append]; omega) | (simp; omega)) (by first | omega | (simp only [List.length_cons, List.length_nil, List.length_append]; omega) | (simp; omega))) ?_
      refine o1 (ldrn rfl ti94 (Le rfl)) ?_
      refine e1 (av := .bp 1 0) (salloc zi94) ?_
      refine e0 (sstn rfl rfl rfl rfl (Le rfl) ti94) ?_
      refine owk (wnorm (.c (o := .arr _ _ _ _) rfl (.c (o := .box _ _) rfl (.n))) rfl) ?_
      refine onil ?_
      refine xthn ?_
      refine cseq ?_
      refine cregh [] mixed ?_
      refine v1 (hi := rfl) 0 (fun _ => mv rfl) ?_
      refine v1 (hi := rfl) 1 (fun _ => fab rfl fi94_0) ?_
      refine v1 (hi := rfl) 2 (fun _ => ldb rfl rfl rfl ti40) ?_
      refine v1 (hi := rfl) 4 (fun _ => fab rfl fi94_1) ?_
      refine v1 (hi := rfl) 5 (fun _ => ldb rfl rfl rfl ti9) ?_
      refine hn1 (n := 3) ?_
      refine xce (hi := rfl) c_spec_l15Has (_, _) [] [] [] (.c rfl (.c (.e rfl)) (.c rfl (.c (.e rfl)) (.n))) (by first | trivial | assumption | omega | (simp only []; omega) | (refine ?_; omega) | (constructor <;> omega) | (refine ⟨?_, ?_⟩ <;> (first | assumption | omega | (simp; omega)))) (by decide) (by decide) (.n) rfl (.inl rfl) ?_ (.inl rfl)
      refine v1 (hi := rfl) 6 (fun _ => sbin rfl rfl rfl) ?_
      refine h9 ?_
      refine xthn ?_
      refine ccond rfl (fun c4 => ?_) (fun c4 => ?_)
      · try simp only [q1, q2, q3, q4, q5, q6, q7, q8, q9, q10, q11, q12, q13, q14, q15, q16, q17] at c4
        have dl := delS_len (b := b) (l := a)
        have sl := setS_len (b := a) (l := b.take i)
        simp only [List.length_take] at sl
        have hq := hx.2.2.2 _ (ix_mem (z := KRLSzSz.z) (i := i) (show i < b.length by omega))
        refine cregh [0] mixed ?_
        refine v1 (hi := rfl) 0 (fun _ => mv rfl) ?_
        refine v1 (hi := rfl) 2 (fun _ => fab rfl fi94_0) ?_
        refine v1 (hi := rfl) 3 (fun _ => ldb rfl rfl rfl ti40) ?_
        refine v1 (hi := rfl) 5 (fun _ => fab rfl fi94_1) ?_
        refine v1 (hi := rfl) 6 (fun _ => ldb rfl rfl rfl ti9) ?_
        refine hn1 (n := 1) ?_
        refine x1 (hi := rfl) (av := .own 2) [0, 2] (sbs0 mi40) ?_
        refine hn1 (n := 4) ?_
        refine x1 (hi := rfl) (av := .own 3) [0, 2, 3] (sapp (k := 2) rfl rfl rfl .c mi40 (L rfl) (by first | omega | (simp only [List.length_cons, List.length_nil, List.length_append]; omega) | (simp; omega)) (by first | omega | (simp only [List.length_cons, List.length_nil, List.length_append]; omega) | (simp; omega))) ?_
        refine v1 (hi := rfl) 7 (fun _ => bld pi42 zi42 (.c rfl rfl (.c rfl rfl (.c rfl rfl .n))) rfl) ?_
        refine hn1 (n := 8) ?_
        refine x1 (hi := rfl) (av := .own 4) [0, 2, 3, 4] (sbs1d mi37 (L rfl) (Le rfl) rfl .g (.c rfl (.o (k := 3) rfl rfl (.c rfl (.n)))) (by decide)) ?_
        refine hnorm (.c (o := .arr _ _ _ _) rfl (.c (o := .box _ _) rfl (.c rfl (.c rfl (.c (o := .arr _ _ _ _) rfl (.n)))))) rfl ?_
        refine hn1 (n := 9) ?_
        refine x1 (hi := rfl) (av := .own 5) [0, 2, 3, 4] (sappd (k := 0) (j := 4) rfl rfl rfl rfl rfl rfl mi37 (L rfl) (by first | omega | (simp only [List.length_cons, List.length_nil, List.length_append]; omega) | (simp; omega)) (by first | omega | (simp only [List.length_cons, List.length_nil, List.length_append]; omega) | (simp; omega))) ?_
        refine v1 (hi := rfl) 10 (fun _ => asn rfl) ?_
        refine h9 ?_
        refine xbn ?_
        refine xthn ?_
        refine creg ?_
        refine o1 (iadd rfl rfl (by first | omega | (simp only [List.length_cons, List.length_nil, List.length_append]; omega) | (simp; omega)) (by first | omega | (simp only [List.length_cons, List.length_nil, List.length_append]; omega) | (simp; omega))) ?_
        refine o1 (mv rfl) ?_
        refine onil ?_
        refine xlq (i + 1) (by omega) (by first | omega | (simp only []; omega)) (weak [5] (by decide) (hk hH rfl) (by repeat (first | exact .n | refine .c rfl (by first | rfl | exact arq ((List.append_assoc _ _ _).trans (congrArg (delS b a ++ ·) (flm_step (z := KRLSzSz.z) (f := (fun x : KRLSzSz.den => ((true, x.1, x.2.1, ()) : KROLSzSz.den))) (by omega) (by simpa using c4)))) | exact arq (congrArg (delS b a ++ ·) (flm_skip (z := KRLSzSz.z) (f := (fun x : KRLSzSz.den => ((true, x.1, x.2.1, ()) : KROLSzSz.den))) (by omega) (by simpa using c4)))) ?_)) (by repeat (first | exact .n | refine .c rfl (by first | rfl) ?_)))
      · try simp only [q1, q2, q3, q4, q5, q6, q7, q8, q9, q10, q11, q12, q13, q14, q15, q16, q17] at c4
        refine cskip ?_
        refine xbn ?_
        refine xthn ?_
        refine creg ?_
        refine o1 (iadd rfl rfl (by first | omega | (simp only [List.length_cons, List.length_nil, List.length_append]; omega) | (simp; omega)) (by first | omega | (simp only [List.length_cons, List.length_nil, List.length_append]; omega) | (simp; omega))) ?_
        refine o1 (mv rfl) ?_
        refine onil ?_
        refine xlq (i + 1) (by omega) (by first | omega | (simp only []; omega)) (weak [0] (by decide) (hk hH rfl) (by repeat (first | exact .n | refine .c rfl (by first | rfl | exact arq ((List.append_assoc _ _ _).trans (congrArg (delS b a ++ ·) (flm_step (z := KRLSzSz.z) (f := (fun x : KRLSzSz.den => ((true, x.1, x.2.1, ()) : KROLSzSz.den))) (by omega) (by simpa using c4)))) | exact arq (congrArg (delS b a ++ ·) (flm_skip (z := KRLSzSz.z) (f := (fun x : KRLSzSz.den => ((true, x.1, x.2.1, ()) : KROLSzSz.den))) (by omega) (by simpa using c4)))) ?_)) (by repeat (first | exact .n | refine .c rfl (by first | rfl) ?_)))
    · try simp only [q1, q2, q3, q4, q5, q6, q7, q8, q9, q10, q11, q12, q13, q14, q15, q16, q17] at c3
      refine cexit ?_
      refine xthe ?_
      refine xle ?_
      refine xbh ?_
      refine xthn ?_
      refine cseq ?_
      refine creg ?_
      refine o1 (mv rfl) ?_
      refine o1 (asn rfl) ?_
      refine onil ?_
      refine xthn ?_
      refine cret ?_
      refine xwk (shr (t := 4) (k := 0) rfl rfl) ?_
      refine retg (bs := [.c (.l KROLSzSz) (delS b a ++ setS a b)]) (ob' := []) [] rfl (.t rfl (.n)) (by decide) (hk hH rfl) (.n) (lc (cq ?_) rfl) rfl
      all_goals first | rfl | (rw [List.take_of_length_le (by omega)])

theorem c_spec_DiffOf : Fe Go.Proofs.Try.prog 20 (ι := Leafs × Leafs) (fun | (a, b) => [.c (.l KRLSzSz) a, .c (.l KRLSzSz) b]) (fun | (a, b) => []) (fun | (a, b) => True) (fun | (a, b) => (.tup [.c (.l KROLSzSz) (if good a = true ∧ good b = true then delS b a ++ setS a b else []), .c .b (decide (good a = true ∧ good b = true))], [])) := by
  refine fnE (n := 17) Go.Proofs.Try.func20 rfl rfl (ent Go.Proofs.Try.func20 (by kernel_rfl) rfl) ?_
  rintro ⟨a, b⟩ hx
  refine ⟨Le rfl, fun w0 S0 H Z hH => ?_⟩
  try simp only [] at hx
  refine cseq ?_
  refine creg ?_
  refine o1 (asn rfl) ?_
  refine o1 (asn rfl) ?_
  refine onil ?_
  refine xthn ?_
  refine cseq ?_
  refine cseq ?_
  refine creg ?_
  refine o1 (mv rfl) ?_
  refine ce c_spec_GoodConfig _ [] [] (.c rfl (.c (.e rfl)) (.n)) (by first | trivial | assumption | omega | (simp only []; omega) | (refine ?_; omega) | (constructor <;> omega) | (refine ⟨?_, ?_⟩ <;> (first | assumption | omega | (simp; omega)))) (by decide) (by decide) (.n) rfl (.inl rfl) ?_ (.inl rfl)
  refine o1 (unot rfl) ?_
  refine o1 (mv rfl) ?_
  refine ocase (t := 9) rfl (fun c1 => ?_) (fun c1 => ?_)
  · try simp only [q1, q2, q3, q4, q5, q6, q7, q8, q9, q10, q11, q12, q13, q14, q15, q16, q17] at c1
    refine os rfl ?_
    refine os rfl ?_
    refine os rfl ?_
    refine o1 (pickT rfl rfl) ?_
    refine onil ?_
    refine xthn ?_
    refine ccT rfl ?_
    refine cseq ?_
    refine creg ?_
    refine o1 (asn rfl) ?_
    refine o1 (asn rfl) ?_
    refine onil ?_
    refine xthn ?_
    refine cret ?_
    refine xthr ?_
    refine xwk (wnl KROLSzSz (t := 4) rfl) ?_
    refine retg (bs := [.c (.l KROLSzSz) (if good a = true ∧ good b = true then delS b a ++ setS a b else []), .c .b (decide (good a = true ∧ good b = true))]) (ob' := []) [] rfl (.t rfl (.t rfl (.n))) (by decide) (hk hH rfl) (.n) (lc (cq ?_) (lc (cq ?_) rfl)) rfl
    all_goals first | rfl | (simp_all)
  · try simp only [q1, q2, q3, q4, q5, q6, q7, q8, q9, q10, q11, q12, q13, q14, q15, q16, q17] at c1
    refine og (mv rfl) ?_
    refine ce c_spec_GoodConfig _ [] [] (.c rfl (.c (.e rfl)) (.n)) (by first | trivial | assumption | omega | (simp only []; omega) | (refine ?_; omega) | (constructor <;> omega) | (refine ⟨?_, ?_⟩ <;> (first | assumption | omega | (simp; omega)))) (by decide) (by decide) (.n) rfl (.inl rfl) ?_ (wgd rfl rfl rfl)
    refine og (unot rfl) ?_
    refine o1 (pickF rfl rfl) ?_
    refine onil ?_
    refine xthn ?_
    refine ccond rfl (fun c2 => ?_) (fun c2 => ?_)
    · try simp only [q1, q2, q3, q4, q5, q6, q7, q8, q9, q10, q11, q12, q13, q14, q15, q16, q17] at c2
      refine cseq ?_
      refine creg ?_
      refine o1 (asn rfl) ?_
      refine o1 (asn rfl) ?_
      refine onil ?_
      refine xthn ?_
      refine cret ?_
      refine xthr ?_
      refine xwk (wnl KROLSzSz (t := 4) rfl) ?_
      refine retg (bs := [.c (.l KROLSzSz) (if good a = true ∧ good b = true then delS b a ++ setS a b else []), .c .b (decide (good a = true ∧ good b = true))]) (ob' := []) [] rfl (.t rfl (.t rfl (.n))) (by decide) (hk hH rfl) (.n) (lc (cq ?_) (lc (cq ?_) rfl)) rfl
      all_goals first | rfl | (simp_all)
    · try simp only [q1, q2, q3, q4, q5, q6, q7, q8, q9, q10, q11, q12, q13, q14, q15, q16, q17] at c2
      refine cskip ?_
      refine xthn ?_
      refine cseq ?_
      refine creg ?_
      refine o1 (mv rfl) ?_
      refine o1 (mv rfl) ?_
      refine ce c_spec_l15Diff (_, _) [] [] (.c rfl (.c (.e rfl)) (.c rfl (.c (.e rfl)) (.n))) (by have g1 := good_len c1; have g2 := good_len c2; exact ⟨by omega, by omega, fun x h => by have := (path_len (good_mem c1 h).1).2; omega, fun x h => by have := (path_len (good_mem c2 h).1).2; omega⟩) (by decide) (by decide) (.n) rfl (.inl rfl) ?_ (.inl rfl)
      refine o1 (asn rfl) ?_
      refine o1 (asn rfl) ?_
      refine onil ?_
      refine xthn ?_
      refine cret ?_
      refine retg (bs := [.c (.l KROLSzSz) (if good a = true ∧ good b = true then delS b a ++ setS a b else []), .c .b (decide (good a = true ∧ good b = true))]) (ob' := []) [] rfl (.t rfl (.t rfl (.n))) (by decide) (hk hH rfl) (.n) (lc (cq ?_) (lc (cq ?_) rfl)) rfl
      all_goals first | rfl | (simp_all)

theorem c_spec_DoCommands : Fe Go.Proofs.Try.prog 25 (ι := Leafs × List KROLSzSz.den) (fun | (l, c) => [.c (.l KRLSzSz) l, .c (.l KROLSzSz) c]) (fun | (l, c) => []) (fun | (l, c) => True) (fun | (l, c) => (.tup [.c (.l KRLSzSz) (cfgDo l c).1, .c .b (cfgDo l c).2], [])) := by
  refine fnE (n := 53) Go.Proofs.Try.func25 rfl rfl (ent Go.Proofs.Try.func25 (by kernel_rfl) rfl) ?_
  rintro ⟨l, c⟩ hx
  refine ⟨Le rfl, fun w0 S0 H Z hH => ?_⟩
  try simp only [] at hx
  refine cseq ?_
  refine creg ?_
  refine o1 (asn rfl) ?_
  refine o1 (asn rfl) ?_
  refine onil ?_
  refine xthn ?_
  refine cseq ?_
  refine cseq ?_
  refine creg ?_
  refine o1 (mv rfl) ?_
  refine ce c_spec_GoodConfig _ [] [] (.c rfl (.c (.e rfl)) (.n)) (by first | trivial | assumption | omega | (simp only []; omega) | (refine ?_; omega) | (constructor <;> omega) | (refine ⟨?_, ?_⟩ <;> (first | assumption | omega | (simp; omega)))) (by decide) (by decide) (.n) rfl (.inl rfl) ?_ (.inl rfl)
  refine o1 (unot rfl) ?_
  refine o1 (mv rfl) ?_
  refine ocase (t := 13) rfl (fun c1 => ?_) (fun c1 => ?_)
  · try simp only [q1, q2, q3, q4, q5, q6, q7, q8, q9, q10, q11, q12, q13, q14, q15, q16, q17] at c1
    refine os rfl ?_
    refine os rfl ?_
    refine os rfl ?_
    refine o1 (pickT rfl rfl) ?_
    refine onil ?_
    refine xthn ?_
    refine ccT rfl ?_
    refine cseq ?_
    refine creg ?_
    refine o1 (asn rfl) ?_
    refine o1 (asn rfl) ?_
    refine onil ?_
    refine xthn ?_
    refine cret ?_
    refine xthr ?_
    refine xwk (wnl KRLSzSz (t := 4) rfl) ?_
    refine retg (bs := [.c (.l KRLSzSz) (cfgDo l c).1, .c .b (cfgDo l c).2]) (ob' := []) [] rfl (.t rfl (.t rfl (.n))) (by decide) (hk hH rfl) (.n) (lc (cq ?_) (lc (cq ?_) rfl)) rfl
    all_goals first | rfl | (rw [cfgDo, if_neg (fun h => by rw [h.1] at c1; cases c1)])
  · try simp only [q1, q2, q3, q4, q5, q6, q7, q8, q9, q10, q11, q12, q13, q14, q15, q16, q17] at c1
    refine og (mv rfl) ?_
    refine ofact (t := 14) rfl fun hl1 => ?_
    refine og (lenl rfl li37) ?_
    refine og (ibin rfl rfl rfl) ?_
    refine o1 (pickF rfl rfl) ?_
    refine onil ?_
    refine xthn ?_
    refine ccond rfl (fun c2 => ?_) (fun c2 => ?_)
    · try simp only [q1, q2, q3, q4, q5, q6, q7, q8, q9, q10, q11, q12, q13, q14, q15, q16, q17] at c2
      refine cseq ?_
      refine creg ?_
      refine o1 (asn rfl) ?_
      refine o1 (asn rfl) ?_
      refine onil ?_
      refine xthn ?_
      refine cret ?_
      refine xthr ?_
      refine xwk (wnl KRLSzSz (t := 4) rfl) ?_
      refine retg (bs := [.c (.l KRLSzSz) (cfgDo l c).1, .c .b (cfgDo l c).2]) (ob' := []) [] rfl (.t rfl (.t rfl (.n))) (by decide) (hk hH rfl) (.n) (lc (cq ?_) (lc (cq ?_) rfl)) rfl
      all_goals first | rfl | (rw [cfgDo, if_neg (fun h => by omega)])
    · try simp only [q1, q2, q3, q4, q5, q6, q7, q8, q9, q10, q11, q12, q13, q14, q15, q16, q17] at c2
      refine cskip ?_
      refine xthn ?_
      refine cseq ?_
      refine creg ?_
      refine o1 (mv rfl) ?_
      refine ce c_spec_l15Own _ [] [] (.c rfl (.c (.e rfl)) (.n)) (by exact ⟨by have := good_len c1; omega, fun x hx2 => by have := (path_len (good_mem c1 hx2).1).2; omega⟩) (by decide) (by decide) (.n) rfl (.inl rfl) ?_ (.inl rfl)
      refine o1 (asn rfl) ?_
      refine onil ?_
      refine xthn ?_
      refine cseq ?_
      refine cseq ?_
      refine creg ?_
      refine o1 (mv rfl) ?_
      refine ofact (t := 20) rfl fun hl2 => ?_
      refine o1 (lenl rfl li37) ?_
      refine o1 (mv rfl) ?_
      refine onil ?_
      refine xthn ?_
      refine cblock ?_
      refine clk (ι := Nat × Leafs) (.c 20 rfl (.c 21 rfl (.n))) (fun | (i, m), r => (22, .c (.i .i64) ((i : Int))) :: (6, .c (.l KRLSzSz) (m)) :: r) (fun | (i, m), r => r) (fun | (i, m) => i ≤ c.length ∧ doC l c = doC m (c.drop i)) (fun | (i, m) => c.length - i) (0, l) (by exact ⟨Nat.zero_le _, rfl⟩) (weak [] (by decide) (hk hH rfl) (by repeat (first | exact .n | refine .c rfl (by first | rfl) ?_)) (by repeat (first | exact .n | refine .c rfl (by first | rfl) ?_))) ?_
      rintro ⟨i, m⟩ i0
      try simp only [] at i0
      refine cseq ?_
      refine creg ?_
      refine o1 (ibin rfl rfl rfl) ?_
      refine onil ?_
      refine xthn ?_
      refine cseq ?_
      refine ccond rfl (fun c3 => ?_) (fun c3 => ?_)
      · try simp only [q1, q2, q3, q4, q5, q6, q7, q8, q9, q10, q11, q12, q13, q14, q15, q16, q17] at c3
        refine cskip ?_
        refine xthn ?_
        refine cseq ?_
        refine cblock ?_
        refine cseq ?_
        refine creg ?_
        refine o1 (ixl rfl rfl li37 rfl (by first | omega | (simp only [List.length_cons, List.length_nil, List.length_append]; omega) | (simp; omega)) (by first | omega | (simp only [List.length_cons, List.length_nil, List.length_append]; omega) | (simp; omega))) ?_
        refine o1 (ldrn rfl ti42 (Le rfl)) ?_
        refine e1 (av := .bp 0 0) (salloc zi42) ?_
        refine e0 (sstn rfl rfl rfl rfl (Le rfl) ti42) ?_
        refine owk (wnorm (.c (o := .box _ _) rfl (.n)) rfl) ?_
        refine onil ?_
        refine xthn ?_
        refine cseq ?_
        refine creg ?_
        refine o1 (asn rfl) ?_
        refine onil ?_
        refine xthn ?_
        refine cseq ?_
        refine cblock ?_
        refine cseq ?_
        refine creg ?_
        refine o1 (fab rfl fi42_0) ?_
        refine o1 (ldb rfl rfl rfl ti4) ?_
        refine o1 (asn rfl) ?_
        refine onil ?_
        refine xthn ?_
        refine ccond rfl (fun c4 => ?_) (fun c4 => ?_)
        · try simp only [q1, q2, q3, q4, q5, q6, q7, q8, q9, q10, q11, q12, q13, q14, q15, q16, q17] at c4
          have hs : step1 m (ix KROLSzSz.z c (i : Int)) = cfgSet m (ix KROLSzSz.z c (i : Int)).2.1 (ix KROLSzSz.z c (i : Int)).2.2.1 := if_pos c4
          refine creg ?_
          refine o1 (mv rfl) ?_
          refine o1 (fab rfl fi42_1) ?_
          refine o1 (ldb rfl rfl rfl ti40) ?_
          refine o1 (fab rfl fi42_2) ?_
          refine o1 (ldb rfl rfl rfl ti9) ?_
          refine ce c_spec_SetAt (_, _, _) [] [] (.c rfl (.c (.e rfl)) (.c rfl (.c (.e rfl)) (.c rfl (.c (.e rfl)) (.n)))) (by first | trivial | assumption | omega | (simp only []; omega) | (refine ?_; omega) | (constructor <;> omega) | (refine ⟨?_, ?_⟩ <;> (first | assumption | omega | (simp; omega)))) (by decide) (by decide) (.n) rfl (.inl rfl) ?_ (.inl rfl)
          refine o1 (mv rfl) ?_
          refine o1 (av := .own 1) (xtr rfl rfl) ?_
          refine o1 (xtr rfl rfl) ?_
          refine o1 (asn rfl) ?_
          refine o1 (asn rfl) ?_
          refine onil ?_
          refine xbn ?_
          refine xthn ?_
          refine cseq ?_
          refine creg ?_
          refine o1 (mv rfl) ?_
          refine o1 (unot rfl) ?_
          refine onil ?_
          refine xthn ?_
          refine ccond rfl (fun c5 => ?_) (fun c5 => ?_)
          · try simp only [q1, q2, q3, q4, q5, q6, q7, q8, q9, q10, q11, q12, q13, q14, q15, q16, q17] at c5
            have hd : doC l c = ([], false) := by rw [i0.2, doC_step (by omega), hs, if_neg (by simp [c5])]
            refine cseq ?_
            refine creg ?_
            refine o1 (asn rfl) ?_
            refine o1 (asn rfl) ?_
            refine onil ?_
            refine xthn ?_
            refine cret ?_
            refine xbr ?_
            refine xthr ?_
            refine xlr ?_
            refine xbr ?_
            refine xthr ?_
            refine xwk (wnl KRLSzSz (t := 4) rfl) ?_
            refine retg (bs := [.c (.l KRLSzSz) (cfgDo l c).1, .c .b (cfgDo l c).2]) (ob' := []) [] rfl (.t rfl (.t rfl (.n))) (by decide) (hk hH rfl) (.n) (lc (cq ?_) (lc (cq ?_) rfl)) rfl
            all_goals first | rfl | (rw [cfgDo, if_pos ⟨c1, by omega⟩, hd])
          · try simp only [q1, q2, q3, q4, q5, q6, q7, q8, q9, q10, q11, q12, q13, q14, q15, q16, q17] at c5
            refine cskip ?_
            refine xbn ?_
            refine xthn ?_
            refine creg ?_
            refine o1 (iadd rfl rfl (by first | omega | (simp only [List.length_cons, List.length_nil, List.length_append]; omega) | (simp; omega)) (by first | omega | (simp only [List.length_cons, List.length_nil, List.length_append]; omega) | (simp; omega))) ?_
            refine o1 (mv rfl) ?_
            refine onil ?_
            refine xwk (shr (t := 6) (k := 1) rfl rfl) ?_
            refine xlq (i + 1, (cfgSet m (ix KROLSzSz.z c (i : Int)).2.1 (ix KROLSzSz.z c (i : Int)).2.2.1).1) (by refine ⟨by omega, ?_⟩; rw [i0.2, doC_step (by omega), hs, if_pos c5]) (by first | omega | (simp only []; omega)) (weak [] (by decide) (hk hH rfl) (by repeat (first | exact .n | refine .c rfl (by first | rfl) ?_)) (by repeat (first | exact .n | refine .c rfl (by first | rfl) ?_)))
        · try simp only [q1, q2, q3, q4, q5, q6, q7, q8, q9, q10, q11, q12, q13, q14, q15, q16, q17] at c4
          refine cseq ?_
          refine creg ?_
          refine o1 (fab rfl fi42_2) ?_
          refine o1 (ldb rfl rfl rfl ti9) ?_
          refine o1 (sbin rfl rfl rfl) ?_
          refine o1 (asn rfl) ?_
          refine onil ?_
          refine xthn ?_
          refine ccond rfl (fun c6 => ?_) (fun c6 => ?_)
          · try simp only [q1, q2, q3, q4, q5, q6, q7, q8, q9, q10, q11, q12, q13, q14, q15, q16, q17] at c6
            have hs : step1 m (ix KROLSzSz.z c (i : Int)) = cfgDel m (ix KROLSzSz.z c (i : Int)).2.1 := by rw [step1, if_neg (by simp [c4]), if_pos c6]
            refine creg ?_
            refine o1 (mv rfl) ?_
            refine o1 (fab rfl fi42_1) ?_
            refine o1 (ldb rfl rfl rfl ti40) ?_
            refine ce c_spec_DeleteAt (_, _) [] [] (.c rfl (.c (.e rfl)) (.c rfl (.c (.e rfl)) (.n))) (by first | trivial | assumption | omega | (simp only []; omega) | (refine ?_; omega) | (constructor <;> omega) | (refine ⟨?_, ?_⟩ <;> (first | assumption | omega | (simp; omega)))) (by decide) (by decide) (.n) rfl (.inl rfl) ?_ (.inl rfl)
            refine o1 (mv rfl) ?_
            refine o1 (av := .own 1) (xtr rfl rfl) ?_
            refine o1 (xtr rfl rfl) ?_
            refine o1 (asn rfl) ?_
            refine o1 (asn rfl) ?_
            refine onil ?_
            refine xbn ?_
            refine xthn ?_
            refine cseq ?_
            refine creg ?_
            refine o1 (mv rfl) ?_
            refine o1 (unot rfl) ?_
            refine onil ?_
            refine xthn ?_
            refine ccond rfl (fun c7 => ?_) (fun c7 => ?_)
            · try simp only [q1, q2, q3, q4, q5, q6, q7, q8, q9, q10, q11, q12, q13, q14, q15, q16, q17] at c7
              have hd : doC l c = ([], false) := by rw [i0.2, doC_step (by omega), hs, if_neg (by simp [c7])]
              refine cseq ?_
              refine creg ?_
              refine o1 (asn rfl) ?_
              refine o1 (asn rfl) ?_
              refine onil ?_
              refine xthn ?_
              refine cret ?_
              refine xbr ?_
              refine xthr ?_
              refine xlr ?_
              refine xbr ?_
              refine xthr ?_
              refine xwk (wnl KRLSzSz (t := 4) rfl) ?_
              refine retg (bs := [.c (.l KRLSzSz) (cfgDo l c).1, .c .b (cfgDo l c).2]) (ob' := []) [] rfl (.t rfl (.t rfl (.n))) (by decide) (hk hH rfl) (.n) (lc (cq ?_) (lc (cq ?_) rfl)) rfl
              all_goals first | rfl | (rw [cfgDo, if_pos ⟨c1, by omega⟩, hd])
            · try simp only [q1, q2, q3, q4, q5, q6, q7, q8, q9, q10, q11, q12, q13, q14, q15, q16, q17] at c7
              refine cskip ?_
              refine xbn ?_
              refine xthn ?_
              refine creg ?_
              refine o1 (iadd rfl rfl (by first | omega | (simp only [List.length_cons, List.length_nil, List.length_append]; omega) | (simp; omega)) (by first | omega | (simp only [List.length_cons, List.length_nil, List.length_append]; omega) | (simp; omega))) ?_
              refine o1 (mv rfl) ?_
              refine onil ?_
              refine xwk (shr (t := 6) (k := 1) rfl rfl) ?_
              refine xlq (i + 1, (cfgDel m (ix KROLSzSz.z c (i : Int)).2.1).1) (by refine ⟨by omega, ?_⟩; rw [i0.2, doC_step (by omega), hs, if_pos c7]) (by first | omega | (simp only []; omega)) (weak [] (by decide) (hk hH rfl) (by repeat (first | exact .n | refine .c rfl (by first | rfl) ?_)) (by repeat (first | exact .n | refine .c rfl (by first | rfl) ?_)))
          · try simp only [q1, q2, q3, q4, q5, q6, q7, q8, q9, q10, q11, q12, q13, q14, q15, q16, q17] at c6
            have hs : step1 m (ix KROLSzSz.z c (i : Int)) = ([], false) := by rw [step1, if_neg (by simp [c4]), if_neg c6]
            have hd : doC l c = ([], false) := by rw [i0.2, doC_step (by omega), hs, if_neg (by simp)]
            refine cskip ?_
            refine xbn ?_
            refine xthn ?_
            refine cseq ?_
            refine creg ?_
            refine o1 (mv rfl) ?_
            refine o1 (unot rfl) ?_
            refine onil ?_
            refine xthn ?_
            refine ccT rfl ?_
            refine cseq ?_
            refine creg ?_
            refine o1 (asn rfl) ?_
            refine o1 (asn rfl) ?_
            refine onil ?_
            refine xthn ?_
            refine cret ?_
            refine xbr ?_
            refine xthr ?_
            refine xlr ?_
            refine xbr ?_
            refine xthr ?_
            refine xwk (wnl KRLSzSz (t := 4) rfl) ?_
            refine retg (bs := [.c (.l KRLSzSz) (cfgDo l c).1, .c .b (cfgDo l c).2]) (ob' := []) [] rfl (.t rfl (.t rfl (.n))) (by decide) (hk hH rfl) (.n) (lc (cq ?_) (lc (cq ?_) rfl)) rfl
            all_goals first | rfl | (rw [cfgDo, if_pos ⟨c1, by omega⟩, hd])
      · try simp only [q1, q2, q3, q4, q5, q6, q7, q8, q9, q10, q11, q12, q13, q14, q15, q16, q17] at c3
        refine cexit ?_
        refine xthe ?_
        refine xle ?_
        refine xbh ?_
        refine xthn ?_
        refine cseq ?_
        refine creg ?_
        refine o1 (mv rfl) ?_
        refine o1 (asn rfl) ?_
        refine o1 (asn rfl) ?_
        refine onil ?_
        refine xthn ?_
        refine cret ?_
        refine retg (bs := [.c (.l KRLSzSz) (cfgDo l c).1, .c .b (cfgDo l c).2]) (ob' := []) [] rfl (.t rfl (.t rfl (.n))) (by decide) (hk hH rfl) (.n) (lc (cq ?_) (lc (cq ?_) rfl)) rfl
        all_goals first | rfl | (rw [cfgDo, if_pos ⟨c1, by omega⟩, i0.2, drop_nil (by omega), doC])

theorem c_spec_CommandText : Fe Go.Proofs.Try.prog 28 (ι := KROLSzSz.den) (fun | (s, p, v, u) => [.agg (avs 3 KROLSzSz (s, p, v, u))]) (fun | (s, p, v, u) => []) (fun | (s, p, v, u) => True) (fun | (s, p, v, u) => (.tup [.c .s (cmdT (s, p, v, u)).1, .c .b (cmdT (s, p, v, u)).2], [])) := by
  refine fnE (n := 51) Go.Proofs.Try.func28 rfl rfl (ent Go.Proofs.Try.func28 (by kernel_rfl) rfl) ?_
  rintro ⟨s, p, v, u⟩ hx
  refine ⟨Le rfl, fun w0 S0 H Z hH => ?_⟩
  try simp only [] at hx
  refine cseq ?_
  refine creg ?_
  refine e1 (av := .bp 0 0) (sboxn rfl rfl) ?_
  refine o1 (asn rfl) ?_
  refine o1 (asn rfl) ?_
  refine onil ?_
  refine xthn ?_
  refine cseq ?_
  refine cseq ?_
  refine cregh [] mixed ?_
  refine v1 (hi := rfl) 0 (fun _ => fab rfl fi42_1) ?_
  refine v1 (hi := rfl) 1 (fun _ => ldb rfl rfl rfl ti40) ?_
  refine hn1 (n := 2) ?_
  refine xce (hi := rfl) c_spec_l15Path _ [] [] [] (.c rfl (.c (.e rfl)) (.n)) (by first | trivial | assumption | omega | (simp only []; omega) | (refine ?_; omega) | (constructor <;> omega) | (refine ⟨?_, ?_⟩ <;> (first | assumption | omega | (simp; omega)))) (by decide) (by decide) (.n) rfl (.inl rfl) ?_ (.inl rfl)
  refine v1 (hi := rfl) 3 (fun _ => unot rfl) ?_
  refine v1 (hi := rfl) 4 (fun _ => mv rfl) ?_
  refine hcase (t := 11) rfl (fun c1 => ?_) (fun c1 => ?_)
  · try simp only [q1, q2, q3, q4, q5, q6, q7, q8, q9, q10, q11, q12, q13, q14, q15, q16, q17] at c1
    refine vs 5 rfl ?_
    refine vs 6 rfl ?_
    refine vs 7 rfl ?_
    refine vs 8 rfl ?_
    refine vs 9 rfl ?_
    refine vs 10 rfl ?_
    refine v1 (hi := rfl) 11 (fun _ => pickT rfl rfl) ?_
    refine v1 (hi := rfl) 12 (fun _ => mv rfl) ?_
    refine vs 13 rfl ?_
    refine vs 14 rfl ?_
    refine vs 15 rfl ?_
    refine vs 16 rfl ?_
    refine vu 17 ?_
    refine vu 18 ?_
    refine vu 19 ?_
    refine vs 20 rfl ?_
    refine v1 (hi := rfl) 21 (fun _ => pickT rfl rfl) ?_
    refine h9 ?_
    refine xthn ?_
    refine ccT rfl ?_
    refine cseq ?_
    refine creg ?_
    refine o1 (asn rfl) ?_
    refine o1 (asn rfl) ?_
    refine onil ?_
    refine xthn ?_
    refine cret ?_
    refine xthr ?_
    refine retg (bs := [.c .s (cmdT (s, p, v, u)).1, .c .b (cmdT (s, p, v, u)).2]) (ob' := []) [] rfl (.t rfl (.t rfl (.n))) (by decide) (hk hH rfl) (.n) (lc (cq ?_) (lc (cq ?_) rfl)) rfl
    all_goals first | rfl | (first | (simp_all [cmdT, cmdOK]; done) | (rw [cmdT_bad c2]; done) | (rw [List.take_of_length_le (by omega)]; simp_all [cmdT, cmdOK]; done))
  · try simp only [q1, q2, q3, q4, q5, q6, q7, q8, q9, q10, q11, q12, q13, q14, q15, q16, q17] at c1
    refine vg (hi := rfl) 5 (fun _ => fab rfl fi42_0) ?_
    refine vg (hi := rfl) 6 (fun _ => ldb rfl rfl rfl ti4) ?_
    refine vg (hi := rfl) 7 (fun _ => fab rfl fi42_2) ?_
    refine vg (hi := rfl) 8 (fun _ => ldb rfl rfl rfl ti9) ?_
    refine hn1 (n := 9) ?_
    refine xce (hi := rfl) c_spec_l15Word _ [] [] [] (.c rfl (.c (.e rfl)) (.n)) (by first | trivial | assumption | omega | (simp only []; omega) | (refine ?_; omega) | (constructor <;> omega) | (refine ⟨?_, ?_⟩ <;> (first | assumption | omega | (simp; omega)))) (by decide) (by decide) (.n) rfl (.inl rfl) ?_ (wgd rfl rfl rfl)
    refine vg (hi := rfl) 10 (fun _ => bneq rfl rfl ub4) ?_
    refine v1 (hi := rfl) 11 (fun _ => pickF rfl rfl) ?_
    refine v1 (hi := rfl) 12 (fun _ => mv rfl) ?_
    refine hcase (t := 19) rfl (fun c2 => ?_) (fun c2 => ?_)
    · try simp only [q1, q2, q3, q4, q5, q6, q7, q8, q9, q10, q11, q12, q13, q14, q15, q16, q17] at c2
      refine vs 13 rfl ?_
      refine vs 14 rfl ?_
      refine vs 15 rfl ?_
      refine vs 16 rfl ?_
      refine vu 17 ?_
      refine vu 18 ?_
      refine vu 19 ?_
      refine vs 20 rfl ?_
      refine v1 (hi := rfl) 21 (fun _ => pickT rfl rfl) ?_
      refine h9 ?_
      refine xthn ?_
      refine ccT rfl ?_
      refine cseq ?_
      refine creg ?_
      refine o1 (asn rfl) ?_
      refine o1 (asn rfl) ?_
      refine onil ?_
      refine xthn ?_
      refine cret ?_
      refine xthr ?_
      refine xwk (wnorm (.c (o := .box _ _) rfl (.n)) rfl) ?_
      refine retg (bs := [.c .s (cmdT (s, p, v, u)).1, .c .b (cmdT (s, p, v, u)).2]) (ob' := []) [] rfl (.t rfl (.t rfl (.n))) (by decide) (hk hH rfl) (.n) (lc (cq ?_) (lc (cq ?_) rfl)) rfl
      all_goals first | rfl | (first | (simp_all [cmdT, cmdOK]; done) | (rw [cmdT_bad c2]; done) | (rw [List.take_of_length_le (by omega)]; simp_all [cmdT, cmdOK]; done))
    · try simp only [q1, q2, q3, q4, q5, q6, q7, q8, q9, q10, q11, q12, q13, q14, q15, q16, q17] at c2
      refine vg (hi := rfl) 13 (fun _ => fab rfl fi42_0) ?_
      refine vg (hi := rfl) 14 (fun _ => ldb rfl rfl rfl ti4) ?_
      refine vg (hi := rfl) 15 (fun _ => unot rfl) ?_
      refine vg (hi := rfl) 16 (fun _ => mv rfl) ?_
      refine hcase (t := 23) rfl (fun c3 => ?_) (fun c3 => ?_)
      · try simp only [q1, q2, q3, q4, q5, q6, q7, q8, q9, q10, q11, q12, q13, q14, q15, q16, q17] at c3
        refine vg (hi := rfl) 17 (fun _ => fab rfl fi42_2) ?_
        refine vg (hi := rfl) 18 (fun _ => ldb rfl rfl rfl ti9) ?_
        refine vg (hi := rfl) 19 (fun _ => sbin rfl rfl rfl) ?_
        refine vg (hi := rfl) 20 (fun _ => pickT rfl rfl) ?_
        refine v1 (hi := rfl) 21 (fun _ => pickF rfl rfl) ?_
        refine h9 ?_
        refine xthn ?_
        refine ccond rfl (fun c4 => ?_) (fun c4 => ?_)
        · try simp only [q1, q2, q3, q4, q5, q6, q7, q8, q9, q10, q11, q12, q13, q14, q15, q16, q17] at c4
          refine cseq ?_
          refine creg ?_
          refine o1 (asn rfl) ?_
          refine o1 (asn rfl) ?_
          refine onil ?_
          refine xthn ?_
          refine cret ?_
          refine xthr ?_
          refine xwk (wnorm (.c (o := .box _ _) rfl (.n)) rfl) ?_
          refine retg (bs := [.c .s (cmdT (s, p, v, u)).1, .c .b (cmdT (s, p, v, u)).2]) (ob' := []) [] rfl (.t rfl (.t rfl (.n))) (by decide) (hk hH rfl) (.n) (lc (cq ?_) (lc (cq ?_) rfl)) rfl
          all_goals first | rfl | (first | (simp_all [cmdT, cmdOK]; done) | (rw [cmdT_bad c2]; done) | (rw [List.take_of_length_le (by omega)]; simp_all [cmdT, cmdOK]; done))
        · try simp only [q1, q2, q3, q4, q5, q6, q7, q8, q9, q10, q11, q12, q13, q14, q15, q16, q17] at c4
          refine cskip ?_
          refine xthn ?_
          refine cseq ?_
          refine creg ?_
          refine o1 (asn rfl) ?_
          refine onil ?_
          refine xthn ?_
          refine cseq ?_
          refine cseq ?_
          refine creg ?_
          refine o1 (fab rfl fi42_0) ?_
          refine o1 (ldb rfl rfl rfl ti4) ?_
          refine onil ?_
          refine xthn ?_
          refine ccond rfl (fun c5 => ?_) (fun c5 => ?_)
          · try simp only [q1, q2, q3, q4, q5, q6, q7, q8, q9, q10, q11, q12, q13, q14, q15, q16, q17] at c5
            refine creg ?_
            refine o1 (asn rfl) ?_
            refine onil ?_
            refine xthn ?_
            refine cseq ?_
            refine cseq ?_
            have pl := path_len (p := p) (by assumption)
            have pm := path_mem (p := p) (by assumption)
            refine creg ?_
            refine o1 (fab rfl fi42_1) ?_
            refine o1 (ldb rfl rfl rfl ti40) ?_
            refine ofact (t := 32) rfl fun hl1 => ?_
            refine o1 (lenl rfl li40) ?_
            refine o1 (mv rfl) ?_
            refine onil ?_
            refine xthn ?_
            refine cblock ?_
            refine clk (ι := Nat) (.c 1 rfl (.c 32 rfl (.c 33 rfl (.n)))) (fun i r => (34, .c (.i .i64) ((i : Int))) :: (4, .c (.s) ((if s = true then [115, 101, 116] else [100, 101, 108, 101, 116, 101]) ++ wdsT (p.take i))) :: r) (fun i r => r) (fun i => i ≤ p.length) (fun i => p.length - i) 0 (by simp) (weak [0] (by decide) (hk hH rfl) (by repeat (first | exact .n | refine .c rfl (by first | rfl) ?_)) (by repeat (first | exact .n | refine .c rfl (by first | rfl | exact cq (by simp_all [wdsT])) ?_))) ?_
            rintro i i0
            try simp only [] at i0
            have tl0 := wdsT_len (p.take i) (fun w hw => pm w (List.mem_of_mem_take hw))
            simp only [List.length_take] at tl0
            have sl : ((if s = true then [115, 101, 116] else [100, 101, 108, 101, 116, 101] : List UInt8)).length ≤ 6 := by split <;> simp
            refine cseq ?_
            refine creg ?_
            refine o1 (ibin rfl rfl rfl) ?_
            refine onil ?_
            refine xthn ?_
            refine cseq ?_
            refine ccond rfl (fun c6 => ?_) (fun c6 => ?_)
            · try simp only [q1, q2, q3, q4, q5, q6, q7, q8, q9, q10, q11, q12, q13, q14, q15, q16, q17] at c6
              refine cskip ?_
              refine xthn ?_
              refine cseq ?_
              refine cblock ?_
              refine cseq ?_
              have w1 := pm _ (ix_mem (z := KS.z) (i := i) (show i < p.length by omega))
              refine creg ?_
              refine o1 (ixl rfl rfl li40 rfl (by first | omega | (simp only [List.length_cons, List.length_nil, List.length_append]; omega) | (simp; omega)) (by first | omega | (simp only [List.length_cons, List.length_nil, List.length_append]; omega) | (simp; omega))) ?_
              refine o1 (ldr rfl ti9) ?_
              refine o1 (asn rfl) ?_
              refine onil ?_
              refine xthn ?_
              refine creg ?_
              refine o1 (mv rfl) ?_
              refine o1 (mv rfl) ?_
              refine o1 (sadd rfl rfl (by first | omega | (simp only [List.length_cons, List.length_nil, List.length_append]; omega) | (simp; omega))) ?_
              refine o1 (sadd rfl rfl (by first | omega | (simp only [List.length_cons, List.length_nil, List.length_append]; omega) | (simp; omega))) ?_
              refine o1 (asn rfl) ?_
              refine onil ?_
              refine xbn ?_
              refine xthn ?_
              refine creg ?_
              refine o1 (iadd rfl rfl (by first | omega | (simp only [List.length_cons, List.length_nil, List.length_append]; omega) | (simp; omega)) (by first | omega | (simp only [List.length_cons, List.length_nil, List.length_append]; omega) | (simp; omega))) ?_
              refine o1 (mv rfl) ?_
              refine onil ?_
              refine xlq (i + 1) (by omega) (by first | omega | (simp only []; omega)) (weak [0] (by decide) (hk hH rfl) (by repeat (first | exact .n | refine .c rfl (by first | rfl) ?_)) (by repeat (first | exact .n | refine .c rfl (by first | rfl | exact cq (by rw [wdsT_step (by omega)]; simp)) ?_)))
            · try simp only [q1, q2, q3, q4, q5, q6, q7, q8, q9, q10, q11, q12, q13, q14, q15, q16, q17] at c6
              refine cexit ?_
              refine xthe ?_
              refine xle ?_
              refine xbh ?_
              refine xthn ?_
              refine cseq ?_
              refine cseq ?_
              refine creg ?_
              refine o1 (fab rfl fi42_0) ?_
              refine o1 (ldb rfl rfl rfl ti4) ?_
              refine onil ?_
              refine xthn ?_
              refine ccond rfl (fun c7 => ?_) (fun c7 => ?_)
              · try simp only [q1, q2, q3, q4, q5, q6, q7, q8, q9, q10, q11, q12, q13, q14, q15, q16, q17] at c7
                have wl : v.length ≤ 8 := (word_len (by first | assumption | simp_all)).2
                have tl := wdsT_len p pm
                refine creg ?_
                refine o1 (mv rfl) ?_
                refine o1 (fab rfl fi42_2) ?_
                refine o1 (ldb rfl rfl rfl ti9) ?_
                refine o1 (sadd rfl rfl (by first | omega | (simp only [List.length_cons, List.length_nil, List.length_append]; omega) | (simp; omega))) ?_
                refine o1 (sadd rfl rfl (by first | omega | (simp only [List.length_cons, List.length_nil, List.length_append]; omega) | (simp; omega))) ?_
                refine o1 (asn rfl) ?_
                refine onil ?_
                refine xthn ?_
                refine cseq ?_
                refine creg ?_
                refine o1 (mv rfl) ?_
                refine o1 (asn rfl) ?_
                refine o1 (asn rfl) ?_
                refine onil ?_
                refine xthn ?_
                refine cret ?_
                refine xwk (wnorm (.c (o := .box _ _) rfl (.n)) rfl) ?_
                refine retg (bs := [.c .s (cmdT (s, p, v, u)).1, .c .b (cmdT (s, p, v, u)).2]) (ob' := []) [] rfl (.t rfl (.t rfl (.n))) (by decide) (hk hH rfl) (.n) (lc (cq ?_) (lc (cq ?_) rfl)) rfl
                all_goals first | rfl | (first | (simp_all [cmdT, cmdOK]; done) | (rw [cmdT_bad c2]; done) | (rw [List.take_of_length_le (by omega)]; simp_all [cmdT, cmdOK]; done))
              · try simp only [q1, q2, q3, q4, q5, q6, q7, q8, q9, q10, q11, q12, q13, q14, q15, q16, q17] at c7
                refine cskip ?_
                refine xthn ?_
                refine cseq ?_
                refine creg ?_
                refine o1 (mv rfl) ?_
                refine o1 (asn rfl) ?_
                refine o1 (asn rfl) ?_
                refine onil ?_
                refine xthn ?_
                refine cret ?_
                refine xwk (wnorm (.c (o := .box _ _) rfl (.n)) rfl) ?_
                refine retg (bs := [.c .s (cmdT (s, p, v, u)).1, .c .b (cmdT (s, p, v, u)).2]) (ob' := []) [] rfl (.t rfl (.t rfl (.n))) (by decide) (hk hH rfl) (.n) (lc (cq ?_) (lc (cq ?_) rfl)) rfl
                all_goals first | rfl | (first | (simp_all [cmdT, cmdOK]; done) | (rw [cmdT_bad c2]; done) | (rw [List.take_of_length_le (by omega)]; simp_all [cmdT, cmdOK]; done))
          · try simp only [q1, q2, q3, q4, q5, q6, q7, q8, q9, q10, q11, q12, q13, q14, q15, q16, q17] at c5
            refine cskip ?_
            refine xthn ?_
            refine cseq ?_
            refine cseq ?_
            have pl := path_len (p := p) (by assumption)
            have pm := path_mem (p := p) (by assumption)
            refine creg ?_
            refine o1 (fab rfl fi42_1) ?_
            refine o1 (ldb rfl rfl rfl ti40) ?_
            refine ofact (t := 32) rfl fun hl2 => ?_
            refine o1 (lenl rfl li40) ?_
            refine o1 (mv rfl) ?_
            refine onil ?_
            refine xthn ?_
            refine cblock ?_
            refine clk (ι := Nat) (.c 1 rfl (.c 32 rfl (.c 33 rfl (.n)))) (fun i r => (34, .c (.i .i64) ((i : Int))) :: (4, .c (.s) ((if s = true then [115, 101, 116] else [100, 101, 108, 101, 116, 101]) ++ wdsT (p.take i))) :: r) (fun i r => r) (fun i => i ≤ p.length) (fun i => p.length - i) 0 (by simp) (weak [0] (by decide) (hk hH rfl) (by repeat (first | exact .n | refine .c rfl (by first | rfl) ?_)) (by repeat (first | exact .n | refine .c rfl (by first | rfl | exact cq (by simp_all [wdsT])) ?_))) ?_
            rintro i i0
            try simp only [] at i0
            have tl0 := wdsT_len (p.take i) (fun w hw => pm w (List.mem_of_mem_take hw))
            simp only [List.length_take] at tl0
            have sl : ((if s = true then [115, 101, 116] else [100, 101, 108, 101, 116, 101] : List UInt8)).length ≤ 6 := by split <;> simp
            refine cseq ?_
            refine creg ?_
            refine o1 (ibin rfl rfl rfl) ?_
            refine onil ?_
            refine xthn ?_
            refine cseq ?_
            refine ccond rfl (fun c8 => ?_) (fun c8 => ?_)
            · try simp only [q1, q2, q3, q4, q5, q6, q7, q8, q9, q10, q11, q12, q13, q14, q15, q16, q17] at c8
              refine cskip ?_
              refine xthn ?_
              refine cseq ?_
              refine cblock ?_
              refine cseq ?_
              have w1 := pm _ (ix_mem (z := KS.z) (i := i) (show i < p.length by omega))
              refine creg ?_
              refine o1 (ixl rfl rfl li40 rfl (by first | omega | (simp only [List.length_cons, List.length_nil, List.length_append]; omega) | (simp; omega)) (by first | omega | (simp only [List.length_cons, List.length_nil, List.length_append]; omega) | (simp; omega))) ?_
              refine o1 (ldr rfl ti9) ?_
              refine o1 (asn rfl) ?_
              refine onil ?_
              refine xthn ?_
              refine creg ?_
              refine o1 (mv rfl) ?_
              refine o1 (mv rfl) ?_
              refine o1 (sadd rfl rfl (by first | omega | (simp only [List.length_cons, List.length_nil, List.length_append]; omega) | (simp; omega))) ?_
              refine o1 (sadd rfl rfl (by first | omega | (simp only [List.length_cons, List.length_nil, List.length_append]; omega) | (simp; omega))) ?_
              refine o1 (asn rfl) ?_
              refine onil ?_
              refine xbn ?_
              refine xthn ?_
              refine creg ?_
              refine o1 (iadd rfl rfl (by first | omega | (simp only [List.length_cons, List.length_nil, List.length_append]; omega) | (simp; omega)) (by first | omega | (simp only [List.length_cons, List.length_nil, List.length_append]; omega) | (simp; omega))) ?_
              refine o1 (mv rfl) ?_
              refine onil ?_
              refine xlq (i + 1) (by omega) (by first | omega | (simp only []; omega)) (weak [0] (by decide) (hk hH rfl) (by repeat (first | exact .n | refine .c rfl (by first | rfl) ?_)) (by repeat (first | exact .n | refine .c rfl (by first | rfl | exact cq (by rw [wdsT_step (by omega)]; simp)) ?_)))
            · try simp only [q1, q2, q3, q4, q5, q6, q7, q8, q9, q10, q11, q12, q13, q14, q15, q16, q17] at c8
              refine cexit ?_
              refine xthe ?_
              refine xle ?_
              refine xbh ?_
              refine xthn ?_
              refine cseq ?_
              refine cseq ?_
              refine creg ?_
              refine o1 (fab rfl fi42_0) ?_
              refine o1 (ldb rfl rfl rfl ti4) ?_
              refine onil ?_
              refine xthn ?_
              refine ccond rfl (fun c9 => ?_) (fun c9 => ?_)
              · try simp only [q1, q2, q3, q4, q5, q6, q7, q8, q9, q10, q11, q12, q13, q14, q15, q16, q17] at c9
                have wl : v.length ≤ 8 := (word_len (by first | assumption | simp_all)).2
                have tl := wdsT_len p pm
                refine creg ?_
                refine o1 (mv rfl) ?_
                refine o1 (fab rfl fi42_2) ?_
                refine o1 (ldb rfl rfl rfl ti9) ?_
                refine o1 (sadd rfl rfl (by first | omega | (simp only [List.length_cons, List.length_nil, List.length_append]; omega) | (simp; omega))) ?_
                refine o1 (sadd rfl rfl (by first | omega | (simp only [List.length_cons, List.length_nil, List.length_append]; omega) | (simp; omega))) ?_
                refine o1 (asn rfl) ?_
                refine onil ?_
                refine xthn ?_
                refine cseq ?_
                refine creg ?_
                refine o1 (mv rfl) ?_
                refine o1 (asn rfl) ?_
                refine o1 (asn rfl) ?_
                refine onil ?_
                refine xthn ?_
                refine cret ?_
                refine xwk (wnorm (.c (o := .box _ _) rfl (.n)) rfl) ?_
                refine retg (bs := [.c .s (cmdT (s, p, v, u)).1, .c .b (cmdT (s, p, v, u)).2]) (ob' := []) [] rfl (.t rfl (.t rfl (.n))) (by decide) (hk hH rfl) (.n) (lc (cq ?_) (lc (cq ?_) rfl)) rfl
                all_goals first | rfl | (first | (simp_all [cmdT, cmdOK]; done) | (rw [cmdT_bad c2]; done) | (rw [List.take_of_length_le (by omega)]; simp_all [cmdT, cmdOK]; done))
              · try simp only [q1, q2, q3, q4, q5, q6, q7, q8, q9, q10, q11, q12, q13, q14, q15, q16, q17] at c9
                refine cskip ?_
                refine xthn ?_
                refine cseq ?_
                refine creg ?_
                refine o1 (mv rfl) ?_
                refine o1 (asn rfl) ?_
                refine o1 (asn rfl) ?_
                refine onil ?_
                refine xthn ?_
                refine cret ?_
                refine xwk (wnorm (.c (o := .box _ _) rfl (.n)) rfl) ?_
                refine retg (bs := [.c .s (cmdT (s, p, v, u)).1, .c .b (cmdT (s, p, v, u)).2]) (ob' := []) [] rfl (.t rfl (.t rfl (.n))) (by decide) (hk hH rfl) (.n) (lc (cq ?_) (lc (cq ?_) rfl)) rfl
                all_goals first | rfl | (first | (simp_all [cmdT, cmdOK]; done) | (rw [cmdT_bad c2]; done) | (rw [List.take_of_length_le (by omega)]; simp_all [cmdT, cmdOK]; done))
      · try simp only [q1, q2, q3, q4, q5, q6, q7, q8, q9, q10, q11, q12, q13, q14, q15, q16, q17] at c3
        refine vs 17 rfl ?_
        refine vs 18 rfl ?_
        refine vs 19 rfl ?_
        refine vg (hi := rfl) 20 (fun _ => pickF rfl rfl) ?_
        refine v1 (hi := rfl) 21 (fun _ => pickF rfl rfl) ?_
        refine h9 ?_
        refine xthn ?_
        refine ccF rfl ?_
        refine cskip ?_
        refine xthn ?_
        refine cseq ?_
        refine creg ?_
        refine o1 (asn rfl) ?_
        refine onil ?_
        refine xthn ?_
        refine cseq ?_
        refine cseq ?_
        refine creg ?_
        refine o1 (fab rfl fi42_0) ?_
        refine o1 (ldb rfl rfl rfl ti4) ?_
        refine onil ?_
        refine xthn ?_
        refine ccond rfl (fun c10 => ?_) (fun c10 => ?_)
        · try simp only [q1, q2, q3, q4, q5, q6, q7, q8, q9, q10, q11, q12, q13, q14, q15, q16, q17] at c10
          refine creg ?_
          refine o1 (asn rfl) ?_
          refine onil ?_
          refine xthn ?_
          refine cseq ?_
          refine cseq ?_
          have pl := path_len (p := p) (by assumption)
          have pm := path_mem (p := p) (by assumption)
          refine creg ?_
          refine o1 (fab rfl fi42_1) ?_
          refine o1 (ldb rfl rfl rfl ti40) ?_
          refine ofact (t := 32) rfl fun hl3 => ?_
          refine o1 (lenl rfl li40) ?_
          refine o1 (mv rfl) ?_
          refine onil ?_
          refine xthn ?_
          refine cblock ?_
          refine clk (ι := Nat) (.c 1 rfl (.c 32 rfl (.c 33 rfl (.n)))) (fun i r => (34, .c (.i .i64) ((i : Int))) :: (4, .c (.s) ((if s = true then [115, 101, 116] else [100, 101, 108, 101, 116, 101]) ++ wdsT (p.take i))) :: r) (fun i r => r) (fun i => i ≤ p.length) (fun i => p.length - i) 0 (by simp) (weak [0] (by decide) (hk hH rfl) (by repeat (first | exact .n | refine .c rfl (by first | rfl) ?_)) (by repeat (first | exact .n | refine .c rfl (by first | rfl | exact cq (by simp_all [wdsT])) ?_))) ?_
          rintro i i0
          try simp only [] at i0
          have tl0 := wdsT_len (p.take i) (fun w hw => pm w (List.mem_of_mem_take hw))
          simp only [List.length_take] at tl0
          have sl : ((if s = true then [115, 101, 116] else [100, 101, 108, 101, 116, 101] : List UInt8)).length ≤ 6 := by split <;> simp
          refine cseq ?_
          refine creg ?_
          refine o1 (ibin rfl rfl rfl) ?_
          refine onil ?_
          refine xthn ?_
          refine cseq ?_
          refine ccond rfl (fun c11 => ?_) (fun c11 => ?_)
          · try simp only [q1, q2, q3, q4, q5, q6, q7, q8, q9, q10, q11, q12, q13, q14, q15, q16, q17] at c11
            refine cskip ?_
            refine xthn ?_
            refine cseq ?_
            refine cblock ?_
            refine cseq ?_
            have w1 := pm _ (ix_mem (z := KS.z) (i := i) (show i < p.length by omega))
            refine creg ?_
            refine o1 (ixl rfl rfl li40 rfl (by first | omega | (simp only [List.length_cons, List.length_nil, List.length_append]; omega) | (simp; omega)) (by first | omega | (simp only [List.length_cons, List.length_nil, List.length_append]; omega) | (simp; omega))) ?_
            refine o1 (ldr rfl ti9) ?_
            refine o1 (asn rfl) ?_
            refine onil ?_
            refine xthn ?_
            refine creg ?_
            refine o1 (mv rfl) ?_
            refine o1 (mv rfl) ?_
            refine o1 (sadd rfl rfl (by first | omega | (simp only [List.length_cons, List.length_nil, List.length_append]; omega) | (simp; omega))) ?_
            refine o1 (sadd rfl rfl (by first | omega | (simp only [List.length_cons, List.length_nil, List.length_append]; omega) | (simp; omega))) ?_
            refine o1 (asn rfl) ?_
            refine onil ?_
            refine xbn ?_
            refine xthn ?_
            refine creg ?_
            refine o1 (iadd rfl rfl (by first | omega | (simp only [List.length_cons, List.length_nil, List.length_append]; omega) | (simp; omega)) (by first | omega | (simp only [List.length_cons, List.length_nil, List.length_append]; omega) | (simp; omega))) ?_
            refine o1 (mv rfl) ?_
            refine onil ?_
            refine xlq (i + 1) (by omega) (by first | omega | (simp only []; omega)) (weak [0] (by decide) (hk hH rfl) (by repeat (first | exact .n | refine .c rfl (by first | rfl) ?_)) (by repeat (first | exact .n | refine .c rfl (by first | rfl | exact cq (by rw [wdsT_step (by omega)]; simp)) ?_)))
          · try simp only [q1, q2, q3, q4, q5, q6, q7, q8, q9, q10, q11, q12, q13, q14, q15, q16, q17] at c11
            refine cexit ?_
            refine xthe ?_
            refine xle ?_
            refine xbh ?_
            refine xthn ?_
            refine cseq ?_
            refine cseq ?_
            refine creg ?_
            refine o1 (fab rfl fi42_0) ?_
            refine o1 (ldb rfl rfl rfl ti4) ?_
            refine onil ?_
            refine xthn ?_
            refine ccond rfl (fun c12 => ?_) (fun c12 => ?_)
            · try simp only [q1, q2, q3, q4, q5, q6, q7, q8, q9, q10, q11, q12, q13, q14, q15, q16, q17] at c12
              have wl : v.length ≤ 8 := (word_len (by first | assumption | simp_all)).2
              have tl := wdsT_len p pm
              refine creg ?_
              refine o1 (mv rfl) ?_
              refine o1 (fab rfl fi42_2) ?_
              refine o1 (ldb rfl rfl rfl ti9) ?_
              refine o1 (sadd rfl rfl (by first | omega | (simp only [List.length_cons, List.length_nil, List.length_append]; omega) | (simp; omega))) ?_
              refine o1 (sadd rfl rfl (by first | omega | (simp only [List.length_cons, List.length_nil, List.length_append]; omega) | (simp; omega))) ?_
              refine o1 (asn rfl) ?_
              refine onil ?_
              refine xthn ?_
              refine cseq ?_
              refine creg ?_
              refine o1 (mv rfl) ?_
              refine o1 (asn rfl) ?_
              refine o1 (asn rfl) ?_
              refine onil ?_
              refine xthn ?_
              refine cret ?_
              refine xwk (wnorm (.c (o := .box _ _) rfl (.n)) rfl) ?_
              refine retg (bs := [.c .s (cmdT (s, p, v, u)).1, .c .b (cmdT (s, p, v, u)).2]) (ob' := []) [] rfl (.t rfl (.t rfl (.n))) (by decide) (hk hH rfl) (.n) (lc (cq ?_) (lc (cq ?_) rfl)) rfl
              all_goals first | rfl | (first | (simp_all [cmdT, cmdOK]; done) | (rw [cmdT_bad c2]; done) | (rw [List.take_of_length_le (by omega)]; simp_all [cmdT, cmdOK]; done))
            · try simp only [q1, q2, q3, q4, q5, q6, q7, q8, q9, q10, q11, q12, q13, q14, q15, q16, q17] at c12
              refine cskip ?_
              refine xthn ?_
              refine cseq ?_
              refine creg ?_
              refine o1 (mv rfl) ?_
              refine o1 (asn rfl) ?_
              refine o1 (asn rfl) ?_
              refine onil ?_
              refine xthn ?_
              refine cret ?_
              refine xwk (wnorm (.c (o := .box _ _) rfl (.n)) rfl) ?_
              refine retg (bs := [.c .s (cmdT (s, p, v, u)).1, .c .b (cmdT (s, p, v, u)).2]) (ob' := []) [] rfl (.t rfl (.t rfl (.n))) (by decide) (hk hH rfl) (.n) (lc (cq ?_) (lc (cq ?_) rfl)) rfl
              all_goals first | rfl | (first | (simp_all [cmdT, cmdOK]; done) | (rw [cmdT_bad c2]; done) | (rw [List.take_of_length_le (by omega)]; simp_all [cmdT, cmdOK]; done))
        · try simp only [q1, q2, q3, q4, q5, q6, q7, q8, q9, q10, q11, q12, q13, q14, q15, q16, q17] at c10
          refine cskip ?_
          refine xthn ?_
          refine cseq ?_
          refine cseq ?_
          have pl := path_len (p := p) (by assumption)
          have pm := path_mem (p := p) (by assumption)
          refine creg ?_
          refine o1 (fab rfl fi42_1) ?_
          refine o1 (ldb rfl rfl rfl ti40) ?_
          refine ofact (t := 32) rfl fun hl4 => ?_
          refine o1 (lenl rfl li40) ?_
          refine o1 (mv rfl) ?_
          refine onil ?_
          refine xthn ?_
          refine cblock ?_
          refine clk (ι := Nat) (.c 1 rfl (.c 32 rfl (.c 33 rfl (.n)))) (fun i r => (34, .c (.i .i64) ((i : Int))) :: (4, .c (.s) ((if s = true then [115, 101, 116] else [100, 101, 108, 101, 116, 101]) ++ wdsT (p.take i))) :: r) (fun i r => r) (fun i => i ≤ p.length) (fun i => p.length - i) 0 (by simp) (weak [0] (by decide) (hk hH rfl) (by repeat (first | exact .n | refine .c rfl (by first | rfl) ?_)) (by repeat (first | exact .n | refine .c rfl (by first | rfl | exact cq (by simp_all [wdsT])) ?_))) ?_
          rintro i i0
          try simp only [] at i0
          have tl0 := wdsT_len (p.take i) (fun w hw => pm w (List.mem_of_mem_take hw))
          simp only [List.length_take] at tl0
          have sl : ((if s = true then [115, 101, 116] else [100, 101, 108, 101, 116, 101] : List UInt8)).length ≤ 6 := by split <;> simp
          refine cseq ?_
          refine creg ?_
          refine o1 (ibin rfl rfl rfl) ?_
          refine onil ?_
          refine xthn ?_
          refine cseq ?_
          refine ccond rfl (fun c13 => ?_) (fun c13 => ?_)
          · try simp only [q1, q2, q3, q4, q5, q6, q7, q8, q9, q10, q11, q12, q13, q14, q15, q16, q17] at c13
            refine cskip ?_
            refine xthn ?_
            refine cseq ?_
            refine cblock ?_
            refine cseq ?_
            have w1 := pm _ (ix_mem (z := KS.z) (i := i) (show i < p.length by omega))
            refine creg ?_
            refine o1 (ixl rfl rfl li40 rfl (by first | omega | (simp only [List.length_cons, List.length_nil, List.length_append]; omega) | (simp; omega)) (by first | omega | (simp only [List.length_cons, List.length_nil, List.length_append]; omega) | (simp; omega))) ?_
            refine o1 (ldr rfl ti9) ?_
            refine o1 (asn rfl) ?_
            refine onil ?_
            refine xthn ?_
            refine creg ?_
            refine o1 (mv rfl) ?_
            refine o1 (mv rfl) ?_
            refine o1 (sadd rfl rfl (by first | omega | (simp only [List.length_cons, List.length_nil, List.length_append]; omega) | (simp; omega))) ?_
            refine o1 (sadd rfl rfl (by first | omega | (simp only [List.length_cons, List.length_nil, List.length_append]; omega) | (simp; omega))) ?_
            refine o1 (asn rfl) ?_
            refine onil ?_
            refine xbn ?_
            refine xthn ?_
            refine creg ?_
            refine o1 (iadd rfl rfl (by first | omega | (simp only [List.length_cons, List.length_nil, List.length_append]; omega) | (simp; omega)) (by first | omega | (simp only [List.length_cons, List.length_nil, List.length_append]; omega) | (simp; omega))) ?_
            refine o1 (mv rfl) ?_
            refine onil ?_
            refine xlq (i + 1) (by omega) (by first | omega | (simp only []; omega)) (weak [0] (by decide) (hk hH rfl) (by repeat (first | exact .n | refine .c rfl (by first | rfl) ?_)) (by repeat (first | exact .n | refine .c rfl (by first | rfl | exact cq (by rw [wdsT_step (by omega)]; simp)) ?_)))
          · try simp only [q1, q2, q3, q4, q5, q6, q7, q8, q9, q10, q11, q12, q13, q14, q15, q16, q17] at c13
            refine cexit ?_
            refine xthe ?_
            refine xle ?_
            refine xbh ?_
            refine xthn ?_
            refine cseq ?_
            refine cseq ?_
            refine creg ?_
            refine o1 (fab rfl fi42_0) ?_
            refine o1 (ldb rfl rfl rfl ti4) ?_
            refine onil ?_
            refine xthn ?_
            refine ccond rfl (fun c14 => ?_) (fun c14 => ?_)
            · try simp only [q1, q2, q3, q4, q5, q6, q7, q8, q9, q10, q11, q12, q13, q14, q15, q16, q17] at c14
              have wl : v.length ≤ 8 := (word_len (by first | assumption | simp_all)).2
              have tl := wdsT_len p pm
              refine creg ?_
              refine o1 (mv rfl) ?_
              refine o1 (fab rfl fi42_2) ?_
              refine o1 (ldb rfl rfl rfl ti9) ?_
              refine o1 (sadd rfl rfl (by first | omega | (simp only [List.length_cons, List.length_nil, List.length_append]; omega) | (simp; omega))) ?_
              refine o1 (sadd rfl rfl (by first | omega | (simp only [List.length_cons, List.length_nil, List.length_append]; omega) | (simp; omega))) ?_
              refine o1 (asn rfl) ?_
              refine onil ?_
              refine xthn ?_
              refine cseq ?_
              refine creg ?_
              refine o1 (mv rfl) ?_
              refine o1 (asn rfl) ?_
              refine o1 (asn rfl) ?_
              refine onil ?_
              refine xthn ?_
              refine cret ?_
              refine xwk (wnorm (.c (o := .box _ _) rfl (.n)) rfl) ?_
              refine retg (bs := [.c .s (cmdT (s, p, v, u)).1, .c .b (cmdT (s, p, v, u)).2]) (ob' := []) [] rfl (.t rfl (.t rfl (.n))) (by decide) (hk hH rfl) (.n) (lc (cq ?_) (lc (cq ?_) rfl)) rfl
              all_goals first | rfl | (first | (simp_all [cmdT, cmdOK]; done) | (rw [cmdT_bad c2]; done) | (rw [List.take_of_length_le (by omega)]; simp_all [cmdT, cmdOK]; done))
            · try simp only [q1, q2, q3, q4, q5, q6, q7, q8, q9, q10, q11, q12, q13, q14, q15, q16, q17] at c14
              refine cskip ?_
              refine xthn ?_
              refine cseq ?_
              refine creg ?_
              refine o1 (mv rfl) ?_
              refine o1 (asn rfl) ?_
              refine o1 (asn rfl) ?_
              refine onil ?_
              refine xthn ?_
              refine cret ?_
              refine xwk (wnorm (.c (o := .box _ _) rfl (.n)) rfl) ?_
              refine retg (bs := [.c .s (cmdT (s, p, v, u)).1, .c .b (cmdT (s, p, v, u)).2]) (ob' := []) [] rfl (.t rfl (.t rfl (.n))) (by decide) (hk hH rfl) (.n) (lc (cq ?_) (lc (cq ?_) rfl)) rfl
              all_goals first | rfl | (first | (simp_all [cmdT, cmdOK]; done) | (rw [cmdT_bad c2]; done) | (rw [List.take_of_length_le (by omega)]; simp_all [cmdT, cmdOK]; done))

end Go.Proofs.YtifpekpmnlcmoaaE
