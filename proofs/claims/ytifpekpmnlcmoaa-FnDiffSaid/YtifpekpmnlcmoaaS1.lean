import Derived.Test.YtifpekpmnlcmoaaProg
import Derived.Test.YtifpekpmnlcmoaaE33
import Derived.Test.YtifpekpmnlcmoaaD6
set_option linter.unusedVariables false
set_option linter.unusedSimpArgs false
set_option maxRecDepth 100000
namespace Go.Proofs.YtifpekpmnlcmoaaE
open Go Go.RowKit Go.Shelf Go.Proofs

theorem flt_step {P : KRLSzSz.den → Bool} {l : Leafs} {i : Nat} (h : i < l.length) (hp : P (ix KRLSzSz.z l (i : Int)) = true) : (l.take i).filter P ++ [ix KRLSzSz.z l (i : Int)] = (l.take (i + 1)).filter P := by
  rw [take_ix (z := KRLSzSz.z) h, List.filter_append]; simp [hp]
theorem flt_skip {P : KRLSzSz.den → Bool} {l : Leafs} {i : Nat} (h : i < l.length) (hp : P (ix KRLSzSz.z l (i : Int)) = false) : (l.take i).filter P = (l.take (i + 1)).filter P := by
  rw [take_ix (z := KRLSzSz.z) h, List.filter_append]; simp [hp]
theorem put_eq {l : Leafs} {x : KRLSzSz.den} {i : Nat} (h1 : i ≤ l.length) (h2 : ∀ j : Nat, j < i → less (ix KRLSzSz.z l (j : Int)).1 x.1 = true) (h3 : i < l.length → less (ix KRLSzSz.z l (i : Int)).1 x.1 = false) : l.take i ++ [x] ++ l.drop i = put l x := by
  have e := cut_eq (fun y : KRLSzSz.den => less y.1 x.1) KRLSzSz.z l i h1 h2 h3
  subst e
  rw [cut_take, cut_drop, put, List.append_assoc]; rfl
theorem beg_same (a b : StrS) : (beg a b && decide ((a.length : Int) = b.length)) = decide (a = b) := by
  rw [beg_eq, Bool.eq_iff_iff]
  simp only [Bool.and_eq_true, decide_eq_true_eq]
  constructor
  · rintro ⟨⟨h1, h2⟩, h3⟩
    rw [h2, List.take_of_length_le (by omega)]
  · rintro rfl
    exact ⟨⟨by omega, by rw [List.take_length]⟩, rfl⟩
def hasV : Leafs → StrS → List UInt8
  | [], _ => []
  | x :: r, p => if x.1 = p then x.2.1 else hasV r p

theorem c_spec_l15Own : Fe Go.Proofs.Try.prog 85 (ι := Leafs) (fun l => [.c (.l KRLSzSz) l]) (fun l => []) (fun l => l.length ≤ 1048576 ∧ ∀ x ∈ l, x.1.length ≤ 1048576) (fun l => (.c (.l KRLSzSz) l, [])) := by
  refine fnE (n := 24) Go.Proofs.Try.func85 rfl rfl (ent Go.Proofs.Try.func85 (by kernel_rfl) rfl) ?_
  rintro l hx
  refine ⟨Le rfl, fun w0 S0 H Z hH => ?_⟩
  try simp only [] at hx
  refine cseq ?_
  refine creg ?_
  refine o1 (asn rfl) ?_
  refine onil ?_
  refine xthn ?_
  refine cseq ?_
  refine creg ?_
  refine o1 (asn rfl) ?_
  refine onil ?_
  refine xthn ?_
  refine cseq ?_
  refine cseq ?_
  refine creg ?_
  refine o1 (mv rfl) ?_
  refine ofact (t := 6) rfl fun hl1 => ?_
  refine o1 (lenl rfl li26) ?_
  refine o1 (mv rfl) ?_
  refine onil ?_
  refine xthn ?_
  refine cblock ?_
  refine cwk (wno (t := 3) true 94 KRLSzSz rfl) ?_
  refine clk (ι := Nat) (.c 6 rfl (.c 7 rfl (.n))) (fun i r => (8, .c (.i .i64) ((i : Int))) :: (3, .own 0) :: r) (fun i r => r.set 0 (.arr true 94 KRLSzSz (l.take i))) (fun i => i ≤ l.length) (fun i => l.length - i) 0 (by simp) (weak [0] (by decide) (hk hH rfl) (by repeat (first | exact .n | refine .c rfl (by first | rfl | exact arq (by rw [take_ix (z := KRLSzSz.z) (by omega), List.nil_append])) ?_)) (by repeat (first | exact .n | refine .c rfl (by first | rfl) ?_))) ?_
  rintro i i0
  try simp only [] at i0
  refine cseq ?_
  refine creg ?_
  refine o1 (ibin rfl rfl rfl) ?_
  refine onil ?_
  refine xthn ?_
  refine cseq ?_
  refine ccond rfl (fun c1 => ?_) (fun c1 => ?_)
  · try simp only [q1, q2, q3, q4, q5, q6, q7, q8, q9, q10, q11, q12, q13, q14, q15, q16, q17] at c1
    refine cskip ?_
    refine xthn ?_
    refine cseq ?_
    refine cblock ?_
    refine cseq ?_
    refine creg ?_
    refine o1 (ixl rfl rfl li26 rfl (by first | omega | (simp only [List.length_cons, List.length_nil, List.length_append]; omega) | (simp; omega)) (by first | omega | (simp only [List.length_cons, List.length_nil, List.length_append]; omega) | (simp; omega))) ?_
    refine o1 (ldrn rfl ti94 (Le rfl)) ?_
    refine e1 (av := .bp 1 0) (salloc zi94) ?_
    refine e0 (sstn rfl rfl rfl rfl (Le rfl) ti94) ?_
    refine onil ?_
    refine xthn ?_
    have hq := hx.2 _ (ix_mem (z := KRLSzSz.z) (i := i) (show i < l.length by omega))
    refine cregh [0] mixed ?_
    refine v1 (hi := rfl) 0 (fun _ => mv rfl) ?_
    refine v1 (hi := rfl) 2 (fun _ => fab rfl fi94_0) ?_
    refine v1 (hi := rfl) 3 (fun _ => ldb rfl rfl rfl ti40) ?_
    refine v1 (hi := rfl) 5 (fun _ => fab rfl fi94_1) ?_
    refine v1 (hi := rfl) 6 (fun _ => ldb rfl rfl rfl ti9) ?_
    refine hn1 (n := 1) ?_
    refine x1 (hi := rfl) (av := .own 2) [0, 2] (sbs0 mi40) ?_
    refine hnorm (.c (o := .arr _ _ _ _) rfl (.c (o := .box _ _) rfl (.c (o := .arr _ _ _ _) rfl (.n)))) rfl ?_
    refine hn1 (n := 4) ?_
    refine x1 (hi := rfl) (av := .own 3) [0, 2, 3] (sapp (k := 2) rfl rfl rfl .c mi40 (L rfl) (by first | omega | (simp only [List.length_cons, List.length_nil, List.length_append]; omega) | (simp; omega)) (by first | omega | (simp only [List.length_cons, List.length_nil, List.length_append]; omega) | (simp; omega))) ?_
    refine v1 (hi := rfl) 7 (fun _ => bld pi94 zi94 (.c rfl rfl (.c rfl rfl .n)) rfl) ?_
    refine hn1 (n := 8) ?_
    refine x1 (hi := rfl) (av := .own 4) [0, 2, 3, 4] (sbs1d mi26 (L rfl) (Le rfl) rfl .g (.o (k := 3) rfl rfl (.c rfl (.n))) (by decide)) ?_
    refine hn1 (n := 9) ?_
    refine x1 (hi := rfl) (av := .own 5) [0, 2, 3, 4] (sappd (k := 0) (j := 4) rfl rfl rfl rfl rfl rfl mi26 (L rfl) (by first | omega | (simp only [List.length_cons, List.length_nil, List.length_append]; omega) | (simp; omega)) (by first | omega | (simp only [List.length_cons, List.length_nil, List.length_append]; omega) | (simp; omega))) ?_
    refine hnorm (.c rfl (.c (o := .box _ _) rfl (.c rfl (.c rfl (.c rfl (.c (o := .arr _ _ _ _) rfl (.n))))))) rfl ?_
    refine v1 (hi := rfl) 10 (fun _ => asn rfl) ?_
    refine h9 ?_
    refine xbn ?_
    refine xthn ?_
    refine creg ?_
    refine o1 (iadd rfl rfl (by first | omega | (simp only [List.length_cons, List.length_nil, List.length_append]; omega) | (simp; omega)) (by first | omega | (simp only [List.length_cons, List.length_nil, List.length_append]; omega) | (simp; omega))) ?_
    refine o1 (mv rfl) ?_
    refine onil ?_
    refine xlq (i + 1) (by omega) (by first | omega | (simp only []; omega)) (weak [5] (by decide) (hk hH rfl) (by repeat (first | exact .n | refine .c rfl (by first | rfl | exact arq (by rw [take_ix (z := KRLSzSz.z) (by omega), List.nil_append])) ?_)) (by repeat (first | exact .n | refine .c rfl (by first | rfl) ?_)))
  · try simp only [q1, q2, q3, q4, q5, q6, q7, q8, q9, q10, q11, q12, q13, q14, q15, q16, q17] at c1
    refine cexit ?_
    refine xthe ?_
    refine xle ?_
    refine xbh ?_
    refine xthn ?_
    refine cseq ?_
    refine creg ?_
    refine o1 (mv rfl) ?_
    refine o1 (asn rfl) ?_
    refine onil ?_
    refine xthn ?_
    refine cret ?_
    refine xwk (shr (t := 2) (k := 0) rfl rfl) ?_
    refine retg (bs := [.c (.l KRLSzSz) l]) (ob' := []) [] rfl (.t rfl (.n)) (by decide) (hk hH rfl) (.n) (lc (cq ?_) rfl) rfl
    all_goals first | rfl | (exact List.take_of_length_le (by omega))

theorem c_spec_l15Put : Fe Go.Proofs.Try.prog 65 (ι := Leafs × KRLSzSz.den) (fun | (l, x) => [.c (.l KRLSzSz) l, .agg (avs 2 KRLSzSz x)]) (fun | (l, x) => []) (fun | (l, x) => l.length ≤ 1048576) (fun | (l, x) => (.own 0, [.arr false 94 KRLSzSz (put l x)])) := by
  refine fnE (n := 37) Go.Proofs.Try.func65 rfl rfl (ent Go.Proofs.Try.func65 (by kernel_rfl) rfl) ?_
  rintro ⟨l, x⟩ hx
  refine ⟨Le rfl, fun w0 S0 H Z hH => ?_⟩
  try simp only [] at hx
  refine cseq ?_
  refine creg ?_
  refine e1 (av := .bp 0 0) (sboxn rfl rfl) ?_
  refine o1 (asn rfl) ?_
  refine onil ?_
  refine xthn ?_
  refine cseq ?_
  refine creg ?_
  refine o1 (asn rfl) ?_
  refine onil ?_
  refine xthn ?_
  refine cseq ?_
  refine cblock ?_
  refine clk (ι := Nat) (.c 0 rfl (.c 3 rfl (.n))) (fun i r => (5, .c (.i .i64) ((i : Int))) :: r) (fun i r => r) (fun i => i ≤ l.length ∧ ∀ j : Nat, j < i → less (ix KRLSzSz.z l (j : Int)).1 x.1 = true) (fun i => l.length - i) 0 (by exact ⟨Nat.zero_le _, fun j h => absurd h (Nat.not_lt_zero _)⟩) (weak [0] (by decide) (hk hH rfl) (by repeat (first | exact .n | refine .c rfl (by first | rfl) ?_)) (by repeat (first | exact .n | refine .c rfl (by first | rfl) ?_))) ?_
  rintro i i0
  try simp only [] at i0
  refine cseq ?_
  refine cseq ?_
  refine cregh [] mixed ?_
  refine v1 (hi := rfl) 0 (fun _ => mv rfl) ?_
  refine v1 (hi := rfl) 1 (fun _ => mv rfl) ?_
  refine hfact (t := 8) rfl fun hl1 => ?_
  refine v1 (hi := rfl) 2 (fun _ => lenl rfl li26) ?_
  refine v1 (hi := rfl) 3 (fun _ => ibin rfl rfl rfl) ?_
  refine v1 (hi := rfl) 4 (fun _ => mv rfl) ?_
  refine hcase (t := 11) rfl (fun c1 => ?_) (fun c1 => ?_)
  · try simp only [q1, q2, q3, q4, q5, q6, q7, q8, q9, q10, q11, q12, q13, q14, q15, q16, q17] at c1
    refine vg (hi := rfl) 5 (fun _ => mv rfl) ?_
    refine vg (hi := rfl) 6 (fun _ => mv rfl) ?_
    refine vg (hi := rfl) 7 (fun _ => ixl rfl rfl li26 rfl (by first | omega | (simp only [List.length_cons, List.length_nil, List.length_append]; omega) | (simp; omega)) (by first | omega | (simp only [List.length_cons, List.length_nil, List.length_append]; omega) | (simp; omega))) ?_
    refine vg (hi := rfl) 8 (fun _ => far rfl fi94_0 (Le rfl)) ?_
    refine vg (hi := rfl) 9 (fun _ => ldr rfl ti40) ?_
    refine vg (hi := rfl) 10 (fun _ => fab rfl fi94_0) ?_
    refine vg (hi := rfl) 11 (fun _ => ldb rfl rfl rfl ti40) ?_
    refine hn1 (n := 12) ?_
    refine xce (hi := rfl) c_spec_l15Less (_, _) [] [] [] (.c rfl (.c (.e rfl)) (.c rfl (.c (.e rfl)) (.n))) (by first | trivial | assumption | omega | (simp only []; omega) | (refine ?_; omega) | (constructor <;> omega) | (refine ⟨?_, ?_⟩ <;> (first | assumption | omega | (simp; omega)))) (by decide) (by decide) (.n) rfl (.inl rfl) ?_ (wgd rfl rfl rfl)
    refine v1 (hi := rfl) 13 (fun _ => pickT rfl rfl) ?_
    refine h9 ?_
    refine xthn ?_
    refine ccond rfl (fun c2 => ?_) (fun c2 => ?_)
    · try simp only [q1, q2, q3, q4, q5, q6, q7, q8, q9, q10, q11, q12, q13, q14, q15, q16, q17] at c2
      refine cskip ?_
      refine xthn ?_
      refine cblock ?_
      refine creg ?_
      refine o1 (mv rfl) ?_
      refine o1 (iadd rfl rfl (by first | omega | (simp only [List.length_cons, List.length_nil, List.length_append]; omega) | (simp; omega)) (by first | omega | (simp only [List.length_cons, List.length_nil, List.length_append]; omega) | (simp; omega))) ?_
      refine o1 (asn rfl) ?_
      refine onil ?_
      refine xbn ?_
      refine xlq (i + 1) (by refine ⟨by omega, fun j hj => ?_⟩; rcases Nat.lt_succ_iff_lt_or_eq.1 hj with h | h; exact i0.2 j h; subst h; exact c2) (by first | omega | (simp only []; omega)) (weak [0] (by decide) (hk hH rfl) (by repeat (first | exact .n | refine .c rfl (by first | rfl) ?_)) (by repeat (first | exact .n | refine .c rfl (by first | rfl) ?_)))
    · try simp only [q1, q2, q3, q4, q5, q6, q7, q8, q9, q10, q11, q12, q13, q14, q15, q16, q17] at c2
      refine cexit ?_
      refine xthe ?_
      refine xle ?_
      refine xbh ?_
      refine xthn ?_
      refine cseq ?_
      refine creg ?_
      refine o1 (asn rfl) ?_
      refine onil ?_
      refine xthn ?_
      refine cseq ?_
      refine creg ?_
      refine o1 (mv rfl) ?_
      refine o1 (mv rfl) ?_
      refine o1 (mv rfl) ?_
      refine o1 (cuth rfl rfl li26 rfl (by first | omega | (simp only [List.length_cons, List.length_nil, List.length_append]; omega) | (simp; omega)) (by first | omega | (simp only [List.length_cons, List.length_nil, List.length_append]; omega) | (simp; omega))) ?_
      refine e1 (av := .own 1) (sappn rfl rfl .c mi26 (L rfl) (by first | omega | (simp only [List.length_cons, List.length_nil, List.length_append]; omega) | (simp; omega)) (by first | omega | (simp only [List.length_cons, List.length_nil, List.length_append]; omega) | (simp; omega))) ?_
      refine o1 (asn rfl) ?_
      refine onil ?_
      refine xthn ?_
      refine cseq ?_
      refine creg ?_
      refine o1 (mv rfl) ?_
      refine o1 (ldbn rfl rfl ti94 (Le rfl)) ?_
      refine e1 (av := .own 2) (sbs1 mi26 (L rfl) (Le rfl) rfl (.i (.c (.c (.n))))) ?_
      refine owk (wnorm (.c (o := .box _ _) rfl (.c (o := .arr _ _ _ _) rfl (.c (o := .arr _ _ _ _) rfl (.n)))) rfl) ?_
      refine e1 (av := .own 3) (sapp (k := 1) rfl rfl rfl (.o (j := 2) rfl rfl) mi26 (L rfl) (by first | omega | (simp only [List.length_cons, List.length_nil, List.length_append]; omega) | (simp; omega)) (by first | omega | (simp only [List.length_cons, List.length_nil, List.length_append]; omega) | (simp; omega))) ?_
      refine o1 (asn rfl) ?_
      refine onil ?_
      refine xthn ?_
      refine cseq ?_
      refine creg ?_
      refine o1 (mv rfl) ?_
      refine o1 (mv rfl) ?_
      refine o1 (mv rfl) ?_
      refine o1 (cutl rfl rfl li26 rfl (by first | omega | (simp only [List.length_cons, List.length_nil, List.length_append]; omega) | (simp; omega)) (by first | omega | (simp only [List.length_cons, List.length_nil, List.length_append]; omega) | (simp; omega))) ?_
      refine e1 (av := .own 4) (sapp (k := 3) rfl rfl rfl .c mi26 (L rfl) (by first | omega | (simp only [List.length_cons, List.length_nil, List.length_append]; omega) | (simp; omega)) (by first | omega | (simp only [List.length_cons, List.length_nil, List.length_append]; omega) | (simp; omega))) ?_
      refine o1 (asn rfl) ?_
      refine onil ?_
      refine xthn ?_
      refine cret ?_
      refine xwk (wnorm (.c (o := .box _ _) rfl (.c rfl (.c (o := .arr _ _ _ _) rfl (.c rfl (.c (o := .arr _ _ _ _) rfl (.n)))))) rfl) ?_
      refine retg (bs := [.own 0]) (ob' := [.arr false 94 KRLSzSz (put l x)]) [4] rfl (.t rfl (.n)) (by decide) (hk hH rfl) (.c rfl (arq ?_) (.n)) (lc rfl rfl) rfl
      all_goals first | rfl | (exact put_eq i0.1 i0.2 (fun _ => c2))
  · try simp only [q1, q2, q3, q4, q5, q6, q7, q8, q9, q10, q11, q12, q13, q14, q15, q16, q17] at c1
    refine vs 5 rfl ?_
    refine vs 6 rfl ?_
    refine vs 7 rfl ?_
    refine vs 8 rfl ?_
    refine vs 9 rfl ?_
    refine vs 10 rfl ?_
    refine vs 11 rfl ?_
    refine vs 12 rfl ?_
    refine v1 (hi := rfl) 13 (fun _ => pickF rfl rfl) ?_
    refine h9 ?_
    refine xthn ?_
    refine ccF rfl ?_
    refine cexit ?_
    refine xthe ?_
    refine xle ?_
    refine xbh ?_
    refine xthn ?_
    refine cseq ?_
    refine creg ?_
    refine o1 (asn rfl) ?_
    refine onil ?_
    refine xthn ?_
    refine cseq ?_
    refine creg ?_
    refine o1 (mv rfl) ?_
    refine o1 (mv rfl) ?_
    refine o1 (mv rfl) ?_
    refine o1 (cuth rfl rfl li26 rfl (by first | omega | (simp only [List.length_cons, List.length_nil, List.length_append]; omega) | (simp; omega)) (by first | omega | (simp only [List.length_cons, List.length_nil, List.length_append]; omega) | (simp; omega))) ?_
    refine e1 (av := .own 1) (sappn rfl rfl .c mi26 (L rfl) (by first | omega | (simp only [List.length_cons, List.length_nil, List.length_append]; omega) | (simp; omega)) (by first | omega | (simp only [List.length_cons, List.length_nil, List.length_append]; omega) | (simp; omega))) ?_
    refine o1 (asn rfl) ?_
    refine onil ?_
    refine xthn ?_
    refine cseq ?_
    refine creg ?_
    refine o1 (mv rfl) ?_
    refine o1 (ldbn rfl rfl ti94 (Le rfl)) ?_
    refine e1 (av := .own 2) (sbs1 mi26 (L rfl) (Le rfl) rfl (.i (.c (.c (.n))))) ?_
    refine e1 (av := .own 3) (sapp (k := 1) rfl rfl rfl (.o (j := 2) rfl rfl) mi26 (L rfl) (by first | omega | (simp only [List.length_cons, List.length_nil, List.length_append]; omega) | (simp; omega)) (by first | omega | (simp only [List.length_cons, List.length_nil, List.length_append]; omega) | (simp; omega))) ?_
    refine owk (wnorm (.c (o := .box _ _) rfl (.c rfl (.c (o := .arr _ _ _ _) rfl (.c (o := .arr _ _ _ _) rfl (.n))))) rfl) ?_
    refine o1 (asn rfl) ?_
    refine onil ?_
    refine xthn ?_
    refine cseq ?_
    refine creg ?_
    refine o1 (mv rfl) ?_
    refine o1 (mv rfl) ?_
    refine o1 (mv rfl) ?_
    refine o1 (cutl rfl rfl li26 rfl (by first | omega | (simp only [List.length_cons, List.length_nil, List.length_append]; omega) | (simp; omega)) (by first | omega | (simp only [List.length_cons, List.length_nil, List.length_append]; omega) | (simp; omega))) ?_
    refine e1 (av := .own 4) (sapp (k := 3) rfl rfl rfl .c mi26 (L rfl) (by first | omega | (simp only [List.length_cons, List.length_nil, List.length_append]; omega) | (simp; omega)) (by first | omega | (simp only [List.length_cons, List.length_nil, List.length_append]; omega) | (simp; omega))) ?_
    refine o1 (asn rfl) ?_
    refine onil ?_
    refine xthn ?_
    refine cret ?_
    refine retg (bs := [.own 0]) (ob' := [.arr false 94 KRLSzSz (put l x)]) [4] rfl (.t rfl (.n)) (by decide) (hk hH rfl) (.c rfl (arq ?_) (.n)) (lc rfl rfl) rfl
    all_goals first | rfl | (exact put_eq i0.1 i0.2 (fun h => by omega))

theorem c_spec_l15SamePath : Fe Go.Proofs.Try.prog 161 (ι := StrS × StrS) (fun | (a, b) => [.c (.l KS) a, .c (.l KS) b]) (fun | (a, b) => []) (fun | (a, b) => True) (fun | (a, b) => (.c .b (decide (a = b)), [])) := by
  refine fnE (n := 15) Go.Proofs.Try.func161 rfl rfl (ent Go.Proofs.Try.func161 (by kernel_rfl) rfl) ?_
  rintro ⟨a, b⟩ hx
  refine ⟨Le rfl, fun w0 S0 H Z hH => ?_⟩
  try simp only [] at hx
  refine cseq ?_
  refine creg ?_
  refine o1 (asn rfl) ?_
  refine onil ?_
  refine xthn ?_
  refine cseq ?_
  refine creg ?_
  refine o1 (mv rfl) ?_
  refine o1 (mv rfl) ?_
  refine ce c_spec_l15Begins (_, _) [] [] (.c rfl (.c (.e rfl)) (.c rfl (.c (.e rfl)) (.n))) (by first | trivial | assumption | omega | (simp only []; omega) | (refine ?_; omega) | (constructor <;> omega) | (refine ⟨?_, ?_⟩ <;> (first | assumption | omega | (simp; omega)))) (by decide) (by decide) (.n) rfl (.inl rfl) ?_ (.inl rfl)
  refine o1 (mv rfl) ?_
  refine ocase (t := 8) rfl (fun c1 => ?_) (fun c1 => ?_)
  · try simp only [q1, q2, q3, q4, q5, q6, q7, q8, q9, q10, q11, q12, q13, q14, q15, q16, q17] at c1
    refine og (mv rfl) ?_
    refine ofact (t := 9) rfl fun hl1 => ?_
    refine og (lenl rfl li40) ?_
    refine og (mv rfl) ?_
    refine ofact (t := 11) rfl fun hl2 => ?_
    refine og (lenl rfl li40) ?_
    refine og (ibin rfl rfl rfl) ?_
    refine o1 (pickT rfl rfl) ?_
    refine o1 (asn rfl) ?_
    refine onil ?_
    refine xthn ?_
    refine cret ?_
    refine retg (bs := [.c .b (decide (a = b))]) (ob' := []) [] rfl (.t rfl (.n)) (by decide) (hk hH rfl) (.n) (lc (cq ?_) rfl) rfl
    all_goals first | rfl | (rw [← beg_same, c1, Bool.true_and]; rfl)
  · try simp only [q1, q2, q3, q4, q5, q6, q7, q8, q9, q10, q11, q12, q13, q14, q15, q16, q17] at c1
    refine os rfl ?_
    refine os rfl ?_
    refine os rfl ?_
    refine os rfl ?_
    refine os rfl ?_
    refine o1 (pickF rfl rfl) ?_
    refine o1 (asn rfl) ?_
    refine onil ?_
    refine xthn ?_
    refine cret ?_
    refine retg (bs := [.c .b (decide (a = b))]) (ob' := []) [] rfl (.t rfl (.n)) (by decide) (hk hH rfl) (.n) (lc (cq ?_) rfl) rfl
    all_goals first | rfl | (rw [← beg_same, c1, Bool.false_and])

theorem c_spec_l15Has : Fe Go.Proofs.Try.prog 129 (ι := Leafs × StrS) (fun | (l, p) => [.c (.l KRLSzSz) l, .c (.l KS) p]) (fun | (l, p) => []) (fun | (l, p) => True) (fun | (l, p) => (.c .s (hasV l p), [])) := by
  refine fnE (n := 20) Go.Proofs.Try.func129 rfl rfl (ent Go.Proofs.Try.func129 (by kernel_rfl) rfl) ?_
  rintro ⟨l, p⟩ hx
  refine ⟨Le rfl, fun w0 S0 H Z hH => ?_⟩
  try simp only [] at hx
  refine cseq ?_
  refine creg ?_
  refine o1 (asn rfl) ?_
  refine onil ?_
  refine xthn ?_
  refine cseq ?_
  refine cseq ?_
  refine creg ?_
  refine o1 (mv rfl) ?_
  refine ofact (t := 7) rfl fun hl1 => ?_
  refine o1 (lenl rfl li26) ?_
  refine o1 (mv rfl) ?_
  refine onil ?_
  refine xthn ?_
  refine cblock ?_
  refine clk (ι := Nat) (.c 1 rfl (.c 7 rfl (.c 8 rfl (.n)))) (fun i r => (9, .c (.i .i64) ((i : Int))) :: r) (fun i r => r) (fun i => i ≤ l.length ∧ hasV l p = hasV (l.drop i) p) (fun i => l.length - i) 0 (by simp) (weak [] (by decide) (hk hH rfl) (by repeat (first | exact .n | refine .c rfl (by first | rfl) ?_)) (by repeat (first | exact .n | refine .c rfl (by first | rfl) ?_))) ?_
  rintro i i0
  try simp only [] at i0
  refine cseq ?_
  refine creg ?_
  refine o1 (ibin rfl rfl rfl) ?_
  refine onil ?_
  refine xthn ?_
  refine cseq ?_
  refine ccond rfl (fun c1 => ?_) (fun c1 => ?_)
  · try simp only [q1, q2, q3, q4, q5, q6, q7, q8, q9, q10, q11, q12, q13, q14, q15, q16, q17] at c1
    refine cskip ?_
    refine xthn ?_
    refine cseq ?_
    refine cblock ?_
    refine cseq ?_
    refine creg ?_
    refine o1 (ixl rfl rfl li26 rfl (by first | omega | (simp only [List.length_cons, List.length_nil, List.length_append]; omega) | (simp; omega)) (by first | omega | (simp only [List.length_cons, List.length_nil, List.length_append]; omega) | (simp; omega))) ?_
    refine o1 (ldrn rfl ti94 (Le rfl)) ?_
    refine e1 (av := .bp 0 0) (salloc zi94) ?_
    refine e0 (sstn rfl rfl rfl rfl (Le rfl) ti94) ?_
    refine onil ?_
    refine xthn ?_
    refine cseq ?_
    refine creg ?_
    refine o1 (fab rfl fi94_0) ?_
    refine o1 (ldb rfl rfl rfl ti40) ?_
    refine o1 (mv rfl) ?_
    refine ce c_spec_l15SamePath (_, _) [] [] (.c rfl (.c (.e rfl)) (.c rfl (.c (.e rfl)) (.n))) (by first | trivial | assumption | omega | (simp only []; omega) | (refine ?_; omega) | (constructor <;> omega) | (refine ⟨?_, ?_⟩ <;> (first | assumption | omega | (simp; omega)))) (by decide) (by decide) (.n) rfl (.inl rfl) ?_ (.inl rfl)
    refine onil ?_
    refine xthn ?_
    refine ccond rfl (fun c2 => ?_) (fun c2 => ?_)
    · try simp only [q1, q2, q3, q4, q5, q6, q7, q8, q9, q10, q11, q12, q13, q14, q15, q16, q17] at c2
      refine cseq ?_
      refine creg ?_
      refine o1 (fab rfl fi94_1) ?_
      refine o1 (ldb rfl rfl rfl ti9) ?_
      refine o1 (asn rfl) ?_
      refine onil ?_
      refine xthn ?_
      refine cret ?_
      refine xbr ?_
      refine xthr ?_
      refine xlr ?_
      refine xbr ?_
      refine xthr ?_
      refine xwk (wnorm (.c (o := .box _ _) rfl (.n)) rfl) ?_
      refine retg (bs := [.c .s (hasV l p)]) (ob' := []) [] rfl (.t rfl (.n)) (by decide) (hk hH rfl) (.n) (lc (cq ?_) rfl) rfl
      all_goals first | rfl | (rw [i0.2, drop_ix (xs := l) (i := i) (z := KRLSzSz.z) (by omega), hasV, if_pos c2])
    · try simp only [q1, q2, q3, q4, q5, q6, q7, q8, q9, q10, q11, q12, q13, q14, q15, q16, q17] at c2
      refine cskip ?_
      refine xbn ?_
      refine xthn ?_
      refine creg ?_
      refine o1 (iadd rfl rfl (by first | omega | (simp only [List.length_cons, List.length_nil, List.length_append]; omega) | (simp; omega)) (by first | omega | (simp only [List.length_cons, List.length_nil, List.length_append]; omega) | (simp; omega))) ?_
      refine o1 (mv rfl) ?_
      refine onil ?_
      refine xlq (i + 1) (by refine ⟨by omega, ?_⟩; rw [i0.2, drop_ix (xs := l) (i := i) (z := KRLSzSz.z) (by omega), hasV, if_neg c2]) (by first | omega | (simp only []; omega)) (weak [] (by decide) (hk hH rfl) (by repeat (first | exact .n | refine .c rfl (by first | rfl) ?_)) (by repeat (first | exact .n | refine .c rfl (by first | rfl) ?_)))
  · try simp only [q1, q2, q3, q4, q5, q6, q7, q8, q9, q10, q11, q12, q13, q14, q15, q16, q17] at c1
    refine cexit ?_
    refine xthe ?_
    refine xle ?_
    refine xbh ?_
    refine xthn ?_
    refine cseq ?_
    refine creg ?_
    refine o1 (asn rfl) ?_
    refine onil ?_
    refine xthn ?_
    refine cret ?_
    refine retg (bs := [.c .s (hasV l p)]) (ob' := []) [] rfl (.t rfl (.n)) (by decide) (hk hH rfl) (.n) (lc (cq ?_) rfl) rfl
    all_goals first | rfl | (rw [i0.2, drop_nil (xs := l) (i := i) (by omega), hasV])

theorem c_spec_SetAt : Fe Go.Proofs.Try.prog 75 (ι := Leafs × StrS × List UInt8) (fun | (l, p, v) => [.c (.l KRLSzSz) l, .c (.l KS) p, .c .s v]) (fun | (l, p, v) => []) (fun | (l, p, v) => True) (fun | (l, p, v) => (.tup [.own 0, .c .b (cfgSet l p v).2], [.arr false 94 KRLSzSz (cfgSet l p v).1])) := by
  refine fnE (n := 59) Go.Proofs.Try.func75 rfl rfl (ent Go.Proofs.Try.func75 (by kernel_rfl) rfl) ?_
  rintro ⟨l, p, v⟩ hx
  refine ⟨Le rfl, fun w0 S0 H Z hH => ?_⟩
  try simp only [] at hx
  refine cseq ?_
  refine creg ?_
  refine o1 (asn rfl) ?_
  refine o1 (asn rfl) ?_
  refine onil ?_
  refine xthn ?_
  refine cseq ?_
  refine cseq ?_
  refine creg ?_
  refine o1 (mv rfl) ?_
  refine ce c_spec_GoodConfig _ [] [] (.c rfl (.c (.e rfl)) (.n)) (by first | trivial | assumption | omega | (simp only []; omega) | (refine ?_; omega) | (constructor <;> omega) | (refine ⟨?_, ?_⟩ <;> (first | assumption | omega | (simp; omega)))) (by decide) (by decide) (.n) rfl (.inl rfl) ?_ (.inl rfl)
  refine o1 (unot rfl) ?_
  refine o1 (mv rfl) ?_
  refine ocase (t := 14) rfl (fun c1 => ?_) (fun c1 => ?_)
  · try simp only [q1, q2, q3, q4, q5, q6, q7, q8, q9, q10, q11, q12, q13, q14, q15, q16, q17] at c1
    refine os rfl ?_
    refine os rfl ?_
    refine os rfl ?_
    refine o1 (pickT rfl rfl) ?_
    refine o1 (mv rfl) ?_
    refine os rfl ?_
    refine os rfl ?_
    refine os rfl ?_
    refine o1 (pickT rfl rfl) ?_
    refine onil ?_
    refine xthn ?_
    refine ccT rfl ?_
    refine cseq ?_
    refine creg ?_
    refine o1 (asn rfl) ?_
    refine o1 (asn rfl) ?_
    refine onil ?_
    refine xthn ?_
    refine cret ?_
    refine xthr ?_
    refine xwk (wno (t := 6) false 94 KRLSzSz rfl) ?_
    refine retg (bs := [.own 0, .c .b (cfgSet l p v).2]) (ob' := [.arr false 94 KRLSzSz (cfgSet l p v).1]) [0] rfl (.t rfl (.t rfl (.n))) (by decide) (hk hH rfl) (.c rfl (arq ?_) (.n)) (lc rfl (lc (cq ?_) rfl)) rfl
    all_goals first | rfl | (simp [cfgSet, c1])
  · try simp only [q1, q2, q3, q4, q5, q6, q7, q8, q9, q10, q11, q12, q13, q14, q15, q16, q17] at c1
    refine og (mv rfl) ?_
    refine ce c_spec_l15Path _ [] [] (.c rfl (.c (.e rfl)) (.n)) (by first | trivial | assumption | omega | (simp only []; omega) | (refine ?_; omega) | (constructor <;> omega) | (refine ⟨?_, ?_⟩ <;> (first | assumption | omega | (simp; omega)))) (by decide) (by decide) (.n) rfl (.inl rfl) ?_ (wgd rfl rfl rfl)
    refine og (unot rfl) ?_
    refine o1 (pickF rfl rfl) ?_
    refine o1 (mv rfl) ?_
    refine ocase (t := 19) rfl (fun c2 => ?_) (fun c2 => ?_)
    · try simp only [q1, q2, q3, q4, q5, q6, q7, q8, q9, q10, q11, q12, q13, q14, q15, q16, q17] at c2
      refine os rfl ?_
      refine os rfl ?_
      refine os rfl ?_
      refine o1 (pickT rfl rfl) ?_
      refine onil ?_
      refine xthn ?_
      refine ccT rfl ?_
      refine cseq ?_
      refine creg ?_
      refine o1 (asn rfl) ?_
      refine o1 (asn rfl) ?_
      refine onil ?_
      refine xthn ?_
      refine cret ?_
      refine xthr ?_
      refine xwk (wno (t := 6) false 94 KRLSzSz rfl) ?_
      refine retg (bs := [.own 0, .c .b (cfgSet l p v).2]) (ob' := [.arr false 94 KRLSzSz (cfgSet l p v).1]) [0] rfl (.t rfl (.t rfl (.n))) (by decide) (hk hH rfl) (.c rfl (arq ?_) (.n)) (lc rfl (lc (cq ?_) rfl)) rfl
      all_goals first | rfl | (simp [cfgSet, c1, c2])
    · try simp only [q1, q2, q3, q4, q5, q6, q7, q8, q9, q10, q11, q12, q13, q14, q15, q16, q17] at c2
      refine og (mv rfl) ?_
      refine ce c_spec_l15Word _ [] [] (.c rfl (.c (.e rfl)) (.n)) (by first | trivial | assumption | omega | (simp only []; omega) | (refine ?_; omega) | (constructor <;> omega) | (refine ⟨?_, ?_⟩ <;> (first | assumption | omega | (simp; omega)))) (by decide) (by decide) (.n) rfl (.inl rfl) ?_ (wgd rfl rfl rfl)
      refine og (unot rfl) ?_
      refine o1 (pickF rfl rfl) ?_
      refine onil ?_
      refine xthn ?_
      refine ccond rfl (fun c3 => ?_) (fun c3 => ?_)
      · try simp only [q1, q2, q3, q4, q5, q6, q7, q8, q9, q10, q11, q12, q13, q14, q15, q16, q17] at c3
        have gl := good_len c1
        have pl := path_len c2
        refine cseq ?_
        refine creg ?_
        refine o1 (asn rfl) ?_
        refine o1 (asn rfl) ?_
        refine onil ?_
        refine xthn ?_
        refine cret ?_
        refine xthr ?_
        refine xwk (wno (t := 6) false 94 KRLSzSz rfl) ?_
        refine retg (bs := [.own 0, .c .b (cfgSet l p v).2]) (ob' := [.arr false 94 KRLSzSz (cfgSet l p v).1]) [0] rfl (.t rfl (.t rfl (.n))) (by decide) (hk hH rfl) (.c rfl (arq ?_) (.n)) (lc rfl (lc (cq ?_) rfl)) rfl
        all_goals first | rfl | (simp [cfgSet, c1, c2, c3])
      · try simp only [q1, q2, q3, q4, q5, q6, q7, q8, q9, q10, q11, q12, q13, q14, q15, q16, q17] at c3
        refine cskip ?_
        refine xthn ?_
        refine cseq ?_
        refine creg ?_
        refine o1 (asn rfl) ?_
        refine onil ?_
        refine xthn ?_
        refine cseq ?_
        refine cseq ?_
        refine creg ?_
        refine o1 (mv rfl) ?_
        refine ce c_spec_l15Own _ [] [] (.c rfl (.c (.e rfl)) (.n)) (by exact ⟨by have := good_len c1; omega, fun x hx2 => by have := (path_len (good_mem c1 hx2).1).2; omega⟩) (by decide) (by decide) (.n) rfl (.inl rfl) ?_ (.inl rfl)
        refine ofact (t := 25) rfl fun hl1 => ?_
        refine o1 (lenl rfl li26) ?_
        refine o1 (mv rfl) ?_
        refine onil ?_
        refine xthn ?_
        refine cblock ?_
        refine cwk (wno (t := 8) false 94 KRLSzSz rfl) ?_
        refine clk (ι := Nat) (.c 1 rfl (.c 2 rfl (.c 25 rfl (.c 26 rfl (.n))))) (fun i r => (27, .c (.i .i64) ((i : Int))) :: (8, .own 0) :: r) (fun i r => r.set 0 (.arr false 94 KRLSzSz ((l.take i).filter fun x => !(beg x.1 p || beg p x.1)))) (fun i => i ≤ l.length) (fun i => l.length - i) 0 (by simp) (weak [0] (by decide) (hk hH rfl) (by repeat (first | exact .n | refine .c rfl (by first | rfl | exact arq rfl) ?_)) (by repeat (first | exact .n | refine .c rfl (by first | rfl) ?_))) ?_
        rintro i i0
        try simp only [] at i0
        have gl := good_len c1
        have fl := List.length_filter_le (fun x : KRLSzSz.den => !(beg x.1 p || beg p x.1)) (l.take i)
        simp only [List.length_take] at fl
        refine cseq ?_
        refine cwk (wnorm (.c (o := .arr _ _ _ _) rfl (.n)) rfl) ?_
        refine creg ?_
        refine o1 (ibin rfl rfl rfl) ?_
        refine onil ?_
        refine xthn ?_
        refine cseq ?_
        refine ccond rfl (fun c4 => ?_) (fun c4 => ?_)
        · try simp only [q1, q2, q3, q4, q5, q6, q7, q8, q9, q10, q11, q12, q13, q14, q15, q16, q17] at c4
          refine cskip ?_
          refine xthn ?_
          refine cseq ?_
          refine cblock ?_
          refine cseq ?_
          refine creg ?_
          refine o1 (ixl rfl rfl li26 rfl (by first | omega | (simp only [List.length_cons, List.length_nil, List.length_append]; omega) | (simp; omega)) (by first | omega | (simp only [List.length_cons, List.length_nil, List.length_append]; omega) | (simp; omega))) ?_
          refine o1 (ldrn rfl ti94 (Le rfl)) ?_
          refine e1 (av := .bp 1 0) (salloc zi94) ?_
          refine e0 (sstn rfl rfl rfl rfl (Le rfl) ti94) ?_
          refine onil ?_
          refine xthn ?_
          refine cseq ?_
          refine creg ?_
          refine o1 (fab rfl fi94_0) ?_
          refine o1 (ldb rfl rfl rfl ti40) ?_
          refine o1 (mv rfl) ?_
          refine ce c_spec_l15Begins (_, _) [] [] (.c rfl (.c (.e rfl)) (.c rfl (.c (.e rfl)) (.n))) (by first | trivial | assumption | omega | (simp only []; omega) | (refine ?_; omega) | (constructor <;> omega) | (refine ⟨?_, ?_⟩ <;> (first | assumption | omega | (simp; omega)))) (by decide) (by decide) (.n) rfl (.inl rfl) ?_ (.inl rfl)
          refine o1 (unot rfl) ?_
          refine o1 (mv rfl) ?_
          refine ocase (t := 36) rfl (fun c5 => ?_) (fun c5 => ?_)
          · try simp only [q1, q2, q3, q4, q5, q6, q7, q8, q9, q10, q11, q12, q13, q14, q15, q16, q17] at c5
            refine og (mv rfl) ?_
            refine og (fab rfl fi94_0) ?_
            refine og (ldb rfl rfl rfl ti40) ?_
            refine ce c_spec_l15Begins (_, _) [] [] (.c rfl (.c (.e rfl)) (.c rfl (.c (.e rfl)) (.n))) (by first | trivial | assumption | omega | (simp only []; omega) | (refine ?_; omega) | (constructor <;> omega) | (refine ⟨?_, ?_⟩ <;> (first | assumption | omega | (simp; omega)))) (by decide) (by decide) (.n) rfl (.inl rfl) ?_ (wgd rfl rfl rfl)
            refine owk (wnorm (.c (o := .arr _ _ _ _) rfl (.c (o := .box _ _) rfl (.n))) rfl) ?_
            refine og (unot rfl) ?_
            refine o1 (pickT rfl rfl) ?_
            refine onil ?_
            refine xthn ?_
            refine ccond rfl (fun c6 => ?_) (fun c6 => ?_)
            · try simp only [q1, q2, q3, q4, q5, q6, q7, q8, q9, q10, q11, q12, q13, q14, q15, q16, q17] at c6
              refine creg ?_
              refine o1 (mv rfl) ?_
              refine o1 (ldbn rfl rfl ti94 (Le rfl)) ?_
              refine e1 (av := .own 2) (sbs1 mi26 (L rfl) (Le rfl) rfl (.i (.c (.c (.n))))) ?_
              refine e1 (av := .own 3) (sapp (k := 0) rfl rfl rfl (.o (j := 2) rfl rfl) mi26 (L rfl) (by first | omega | (simp only [List.length_cons, List.length_nil, List.length_append]; omega) | (simp; omega)) (by first | omega | (simp only [List.length_cons, List.length_nil, List.length_append]; omega) | (simp; omega))) ?_
              refine o1 (asn rfl) ?_
              refine onil ?_
              refine xbn ?_
              refine xthn ?_
              refine creg ?_
              refine o1 (iadd rfl rfl (by first | omega | (simp only [List.length_cons, List.length_nil, List.length_append]; omega) | (simp; omega)) (by first | omega | (simp only [List.length_cons, List.length_nil, List.length_append]; omega) | (simp; omega))) ?_
              refine o1 (mv rfl) ?_
              refine onil ?_
              refine xlq (i + 1) (by omega) (by first | omega | (simp only []; omega)) (weak [3] (by decide) (hk hH rfl) (by repeat (first | exact .n | refine .c rfl (by first | rfl | exact arq (flt_step (by omega) (by simp_all)) | exact arq (flt_skip (by omega) (by simp_all))) ?_)) (by repeat (first | exact .n | refine .c rfl (by first | rfl) ?_)))
            · try simp only [q1, q2, q3, q4, q5, q6, q7, q8, q9, q10, q11, q12, q13, q14, q15, q16, q17] at c6
              refine cskip ?_
              refine xbn ?_
              refine xthn ?_
              refine creg ?_
              refine o1 (iadd rfl rfl (by first | omega | (simp only [List.length_cons, List.length_nil, List.length_append]; omega) | (simp; omega)) (by first | omega | (simp only [List.length_cons, List.length_nil, List.length_append]; omega) | (simp; omega))) ?_
              refine o1 (mv rfl) ?_
              refine onil ?_
              refine xlq (i + 1) (by omega) (by first | omega | (simp only []; omega)) (weak [0] (by decide) (hk hH rfl) (by repeat (first | exact .n | refine .c rfl (by first | rfl | exact arq (flt_step (by omega) (by simp_all)) | exact arq (flt_skip (by omega) (by simp_all))) ?_)) (by repeat (first | exact .n | refine .c rfl (by first | rfl) ?_)))
          · try simp only [q1, q2, q3, q4, q5, q6, q7, q8, q9, q10, q11, q12, q13, q14, q15, q16, q17] at c5
            refine os rfl ?_
            refine os rfl ?_
            refine os rfl ?_
            refine os rfl ?_
            refine os rfl ?_
            refine o1 (pickF rfl rfl) ?_
            refine onil ?_
            refine xthn ?_
            refine ccF rfl ?_
            refine cskip ?_
            refine xbn ?_
            refine xthn ?_
            refine creg ?_
            refine o1 (iadd rfl rfl (by first | omega | (simp only [List.length_cons, List.length_nil, List.length_append]; omega) | (simp; omega)) (by first | omega | (simp only [List.length_cons, List.length_nil, List.length_append]; omega) | (simp; omega))) ?_
            refine o1 (mv rfl) ?_
            refine onil ?_
            refine xlq (i + 1) (by omega) (by first | omega | (simp only []; omega)) (weak [0] (by decide) (hk hH rfl) (by repeat (first | exact .n | refine .c rfl (by first | rfl | exact arq (flt_step (by omega) (by simp_all)) | exact arq (flt_skip (by omega) (by simp_all))) ?_)) (by repeat (first | exact .n | refine .c rfl (by first | rfl) ?_)))
        · try simp only [q1, q2, q3, q4, q5, q6, q7, q8, q9, q10, q11, q12, q13, q14, q15, q16, q17] at c4
          refine cexit ?_
          refine xthe ?_
          refine xle ?_
          refine xbh ?_
          refine xthn ?_
          refine cseq ?_
          have gl := good_len c1
          have pl := path_len c2
          refine creg ?_
          refine o1 (mv rfl) ?_
          refine e1 (av := .own 1) (sbs0 mi40) ?_
          refine o1 (mv rfl) ?_
          refine e1 (av := .own 2) (sapp (k := 1) rfl rfl rfl .c mi40 (L rfl) (by first | omega | (simp only [List.length_cons, List.length_nil, List.length_append]; omega) | (simp; omega)) (by first | omega | (simp only [List.length_cons, List.length_nil, List.length_append]; omega) | (simp; omega))) ?_
          refine o1 (mv rfl) ?_
          refine owk (shr (t := 51) (k := 2) rfl rfl) ?_
          refine o1 (bld pi94 zi94 (.c rfl rfl (.c rfl rfl .n)) rfl) ?_
          refine owk (shr (t := 48) (k := 0) rfl rfl) ?_
          refine ce c_spec_l15Put (_, (p, v, ())) [] [] (.c rfl (.c (.e rfl)) (.c rfl (.c (.e rfl)) (.n))) (by first | trivial | assumption | omega | (simp only []; omega) | (refine ?_; omega) | (constructor <;> omega) | (refine ⟨?_, ?_⟩ <;> (first | assumption | omega | (simp; omega)))) (by decide) (by decide) (.n) rfl (.inl rfl) ?_ (.inl rfl)
          refine owk (wsl (t := 54) (.own 3) rfl rfl) ?_
          refine owk (wnorm (.c rfl (.c rfl (.c rfl (.c (o := .arr _ _ _ _) rfl (.n))))) rfl) ?_
          refine o1 (asn rfl) ?_
          refine onil ?_
          refine xthn ?_
          refine cseq ?_
          refine cseq ?_
          have e : ((l.take i).filter fun x => !(beg x.1 p || beg p x.1)) = (l.filter fun x => !(beg x.1 p || beg p x.1)) := by rw [List.take_of_length_le (by omega)]
          have e2 : put ((l.take i).filter fun x => !(beg x.1 p || beg p x.1)) (p, v, ()) = setIn l p v := by rw [e]; rfl
          refine creg ?_
          refine o1 (mv rfl) ?_
          refine ce c_spec_GoodConfig _ [] [3] (.c rfl (.c (.o (k := 3) (by decide) rfl)) (.n)) (by first | trivial | assumption | omega | (simp only []; omega) | (refine ?_; omega) | (constructor <;> omega) | (refine ⟨?_, ?_⟩ <;> (first | assumption | omega | (simp; omega)))) (by decide) (by decide) (.n) rfl (.inr ⟨rfl, by simp [Ob.free]⟩) ?_ (.inl rfl)
          refine o1 (unot rfl) ?_
          refine onil ?_
          refine xthn ?_
          refine ccond rfl (fun c7 => ?_) (fun c7 => ?_)
          · try simp only [q1, q2, q3, q4, q5, q6, q7, q8, q9, q10, q11, q12, q13, q14, q15, q16, q17] at c7
            refine cseq ?_
            refine creg ?_
            refine o1 (asn rfl) ?_
            refine o1 (asn rfl) ?_
            refine onil ?_
            refine xthn ?_
            refine cret ?_
            refine xthr ?_
            refine xwk (wno (t := 6) false 94 KRLSzSz rfl) ?_
            refine retg (bs := [.own 0, .c .b (cfgSet l p v).2]) (ob' := [.arr false 94 KRLSzSz (cfgSet l p v).1]) [4] rfl (.t rfl (.t rfl (.n))) (by decide) (hk hH rfl) (.c rfl (arq ?_) (.n)) (lc rfl (lc (cq ?_) rfl)) rfl
            all_goals first | rfl | (rw [e2] at c7; simp [cfgSet, c1, c2, c3, c7])
          · try simp only [q1, q2, q3, q4, q5, q6, q7, q8, q9, q10, q11, q12, q13, q14, q15, q16, q17] at c7
            refine cskip ?_
            refine xthn ?_
            refine cseq ?_
            refine creg ?_
            refine o1 (mv rfl) ?_
            refine o1 (asn rfl) ?_
            refine o1 (asn rfl) ?_
            refine onil ?_
            refine xthn ?_
            refine cret ?_
            refine retg (bs := [.own 0, .c .b (cfgSet l p v).2]) (ob' := [.arr false 94 KRLSzSz (cfgSet l p v).1]) [3] rfl (.t rfl (.t rfl (.n))) (by decide) (hk hH rfl) (.c rfl (arq ?_) (.n)) (lc rfl (lc (cq ?_) rfl)) rfl
            all_goals first | rfl | (rw [e2] at c7; first | (simp [cfgSet, c1, c2, c3, c7]; done) | (rw [e2]; simp [cfgSet, c1, c2, c3, c7]))

theorem c_spec_SetAt_no : Fe Go.Proofs.Try.prog 75 (ι := Leafs × StrS × List UInt8) (fun | (l, p, v) => [.c (.l KRLSzSz) l, .c (.l KS) p, .c .s v]) (fun | (l, p, v) => []) (fun | (l, p, v) => (cfgSet l p v).2 = false) (fun | (l, p, v) => (.tup [.nl, .c .b false], [])) := by
  refine fnE (n := 59) Go.Proofs.Try.func75 rfl rfl (ent Go.Proofs.Try.func75 (by kernel_rfl) rfl) ?_
  rintro ⟨l, p, v⟩ hx
  refine ⟨Le rfl, fun w0 S0 H Z hH => ?_⟩
  try simp only [] at hx
  refine cseq ?_
  refine creg ?_
  refine o1 (asn rfl) ?_
  refine o1 (asn rfl) ?_
  refine onil ?_
  refine xthn ?_
  refine cseq ?_
  refine cseq ?_
  refine creg ?_
  refine o1 (mv rfl) ?_
  refine ce c_spec_GoodConfig _ [] [] (.c rfl (.c (.e rfl)) (.n)) (by first | trivial | assumption | omega | (simp only []; omega) | (refine ?_; omega) | (constructor <;> omega) | (refine ⟨?_, ?_⟩ <;> (first | assumption | omega | (simp; omega)))) (by decide) (by decide) (.n) rfl (.inl rfl) ?_ (.inl rfl)
  refine o1 (unot rfl) ?_
  refine o1 (mv rfl) ?_
  refine ocase (t := 14) rfl (fun c1 => ?_) (fun c1 => ?_)
  · try simp only [q1, q2, q3, q4, q5, q6, q7, q8, q9, q10, q11, q12, q13, q14, q15, q16, q17] at c1
    refine os rfl ?_
    refine os rfl ?_
    refine os rfl ?_
    refine o1 (pickT rfl rfl) ?_
    refine o1 (mv rfl) ?_
    refine os rfl ?_
    refine os rfl ?_
    refine os rfl ?_
    refine o1 (pickT rfl rfl) ?_
    refine onil ?_
    refine xthn ?_
    refine ccT rfl ?_
    refine cseq ?_
    refine creg ?_
    refine o1 (asn rfl) ?_
    refine o1 (asn rfl) ?_
    refine onil ?_
    refine xthn ?_
    refine cret ?_
    refine xthr ?_
    refine retg (bs := [.nl, .c .b false]) (ob' := []) [] rfl (.t rfl (.t rfl (.n))) (by decide) (hk hH rfl) (.n) (lc rfl (lc (cq ?_) rfl)) rfl
    all_goals first | rfl | (rfl)
  · try simp only [q1, q2, q3, q4, q5, q6, q7, q8, q9, q10, q11, q12, q13, q14, q15, q16, q17] at c1
    refine og (mv rfl) ?_
    refine ce c_spec_l15Path _ [] [] (.c rfl (.c (.e rfl)) (.n)) (by first | trivial | assumption | omega | (simp only []; omega) | (refine ?_; omega) | (constructor <;> omega) | (refine ⟨?_, ?_⟩ <;> (first | assumption | omega | (simp; omega)))) (by decide) (by decide) (.n) rfl (.inl rfl) ?_ (wgd rfl rfl rfl)
    refine og (unot rfl) ?_
    refine o1 (pickF rfl rfl) ?_
    refine o1 (mv rfl) ?_
    refine ocase (t := 19) rfl (fun c2 => ?_) (fun c2 => ?_)
    · try simp only [q1, q2, q3, q4, q5, q6, q7, q8, q9, q10, q11, q12, q13, q14, q15, q16, q17] at c2
      refine os rfl ?_
      refine os rfl ?_
      refine os rfl ?_
      refine o1 (pickT rfl rfl) ?_
      refine onil ?_
      refine xthn ?_
      refine ccT rfl ?_
      refine cseq ?_
      refine creg ?_
      refine o1 (asn rfl) ?_
      refine o1 (asn rfl) ?_
      refine onil ?_
      refine xthn ?_
      refine cret ?_
      refine xthr ?_
      refine retg (bs := [.nl, .c .b false]) (ob' := []) [] rfl (.t rfl (.t rfl (.n))) (by decide) (hk hH rfl) (.n) (lc rfl (lc (cq ?_) rfl)) rfl
      all_goals first | rfl | (rfl)
    · try simp only [q1, q2, q3, q4, q5, q6, q7, q8, q9, q10, q11, q12, q13, q14, q15, q16, q17] at c2
      refine og (mv rfl) ?_
      refine ce c_spec_l15Word _ [] [] (.c rfl (.c (.e rfl)) (.n)) (by first | trivial | assumption | omega | (simp only []; omega) | (refine ?_; omega) | (constructor <;> omega) | (refine ⟨?_, ?_⟩ <;> (first | assumption | omega | (simp; omega)))) (by decide) (by decide) (.n) rfl (.inl rfl) ?_ (wgd rfl rfl rfl)
      refine og (unot rfl) ?_
      refine o1 (pickF rfl rfl) ?_
      refine onil ?_
      refine xthn ?_
      refine ccond rfl (fun c3 => ?_) (fun c3 => ?_)
      · try simp only [q1, q2, q3, q4, q5, q6, q7, q8, q9, q10, q11, q12, q13, q14, q15, q16, q17] at c3
        have gl := good_len c1
        have pl := path_len c2
        refine cseq ?_
        refine creg ?_
        refine o1 (asn rfl) ?_
        refine o1 (asn rfl) ?_
        refine onil ?_
        refine xthn ?_
        refine cret ?_
        refine xthr ?_
        refine retg (bs := [.nl, .c .b false]) (ob' := []) [] rfl (.t rfl (.t rfl (.n))) (by decide) (hk hH rfl) (.n) (lc rfl (lc (cq ?_) rfl)) rfl
        all_goals first | rfl | (rfl)
      · try simp only [q1, q2, q3, q4, q5, q6, q7, q8, q9, q10, q11, q12, q13, q14, q15, q16, q17] at c3
        refine cskip ?_
        refine xthn ?_
        refine cseq ?_
        refine creg ?_
        refine o1 (asn rfl) ?_
        refine onil ?_
        refine xthn ?_
        refine cseq ?_
        refine cseq ?_
        refine creg ?_
        refine o1 (mv rfl) ?_
        refine ce c_spec_l15Own _ [] [] (.c rfl (.c (.e rfl)) (.n)) (by exact ⟨by have := good_len c1; omega, fun x hx2 => by have := (path_len (good_mem c1 hx2).1).2; omega⟩) (by decide) (by decide) (.n) rfl (.inl rfl) ?_ (.inl rfl)
        refine ofact (t := 25) rfl fun hl1 => ?_
        refine o1 (lenl rfl li26) ?_
        refine o1 (mv rfl) ?_
        refine onil ?_
        refine xthn ?_
        refine cblock ?_
        refine cwk (wno (t := 8) false 94 KRLSzSz rfl) ?_
        refine clk (ι := Nat) (.c 1 rfl (.c 2 rfl (.c 25 rfl (.c 26 rfl (.n))))) (fun i r => (27, .c (.i .i64) ((i : Int))) :: (8, .own 0) :: r) (fun i r => r.set 0 (.arr false 94 KRLSzSz ((l.take i).filter fun x => !(beg x.1 p || beg p x.1)))) (fun i => i ≤ l.length) (fun i => l.length - i) 0 (by simp) (weak [0] (by decide) (hk hH rfl) (by repeat (first | exact .n | refine .c rfl (by first | rfl | exact arq rfl) ?_)) (by repeat (first | exact .n | refine .c rfl (by first | rfl) ?_))) ?_
        rintro i i0
        try simp only [] at i0
        have gl := good_len c1
        have fl := List.length_filter_le (fun x : KRLSzSz.den => !(beg x.1 p || beg p x.1)) (l.take i)
        simp only [List.length_take] at fl
        refine cseq ?_
        refine cwk (wnorm (.c (o := .arr _ _ _ _) rfl (.n)) rfl) ?_
        refine creg ?_
        refine o1 (ibin rfl rfl rfl) ?_
        refine onil ?_
        refine xthn ?_
        refine cseq ?_
        refine ccond rfl (fun c4 => ?_) (fun c4 => ?_)
        · try simp only [q1, q2, q3, q4, q5, q6, q7, q8, q9, q10, q11, q12, q13, q14, q15, q16, q17] at c4
          refine cskip ?_
          refine xthn ?_
          refine cseq ?_
          refine cblock ?_
          refine cseq ?_
          refine creg ?_
          refine o1 (ixl rfl rfl li26 rfl (by first | omega | (simp only [List.length_cons, List.length_nil, List.length_append]; omega) | (simp; omega)) (by first | omega | (simp only [List.length_cons, List.length_nil, List.length_append]; omega) | (simp; omega))) ?_
          refine o1 (ldrn rfl ti94 (Le rfl)) ?_
          refine e1 (av := .bp 1 0) (salloc zi94) ?_
          refine e0 (sstn rfl rfl rfl rfl (Le rfl) ti94) ?_
          refine onil ?_
          refine xthn ?_
          refine cseq ?_
          refine creg ?_
          refine o1 (fab rfl fi94_0) ?_
          refine o1 (ldb rfl rfl rfl ti40) ?_
          refine o1 (mv rfl) ?_
          refine ce c_spec_l15Begins (_, _) [] [] (.c rfl (.c (.e rfl)) (.c rfl (.c (.e rfl)) (.n))) (by first | trivial | assumption | omega | (simp only []; omega) | (refine ?_; omega) | (constructor <;> omega) | (refine ⟨?_, ?_⟩ <;> (first | assumption | omega | (simp; omega)))) (by decide) (by decide) (.n) rfl (.inl rfl) ?_ (.inl rfl)
          refine o1 (unot rfl) ?_
          refine o1 (mv rfl) ?_
          refine ocase (t := 36) rfl (fun c5 => ?_) (fun c5 => ?_)
          · try simp only [q1, q2, q3, q4, q5, q6, q7, q8, q9, q10, q11, q12, q13, q14, q15, q16, q17] at c5
            refine og (mv rfl) ?_
            refine og (fab rfl fi94_0) ?_
            refine og (ldb rfl rfl rfl ti40) ?_
            refine ce c_spec_l15Begins (_, _) [] [] (.c rfl (.c (.e rfl)) (.c rfl (.c (.e rfl)) (.n))) (by first | trivial | assumption | omega | (simp only []; omega) | (refine ?_; omega) | (constructor <;> omega) | (refine ⟨?_, ?_⟩ <;> (first | assumption | omega | (simp; omega)))) (by decide) (by decide) (.n) rfl (.inl rfl) ?_ (wgd rfl rfl rfl)
            refine owk (wnorm (.c (o := .arr _ _ _ _) rfl (.c (o := .box _ _) rfl (.n))) rfl) ?_
            refine og (unot rfl) ?_
            refine o1 (pickT rfl rfl) ?_
            refine onil ?_
            refine xthn ?_
            refine ccond rfl (fun c6 => ?_) (fun c6 => ?_)
            · try simp only [q1, q2, q3, q4, q5, q6, q7, q8, q9, q10, q11, q12, q13, q14, q15, q16, q17] at c6
              refine creg ?_
              refine o1 (mv rfl) ?_
              refine o1 (ldbn rfl rfl ti94 (Le rfl)) ?_
              refine e1 (av := .own 2) (sbs1 mi26 (L rfl) (Le rfl) rfl (.i (.c (.c (.n))))) ?_
              refine e1 (av := .own 3) (sapp (k := 0) rfl rfl rfl (.o (j := 2) rfl rfl) mi26 (L rfl) (by first | omega | (simp only [List.length_cons, List.length_nil, List.length_append]; omega) | (simp; omega)) (by first | omega | (simp only [List.length_cons, List.length_nil, List.length_append]; omega) | (simp; omega))) ?_
              refine o1 (asn rfl) ?_
              refine onil ?_
              refine xbn ?_
              refine xthn ?_
              refine creg ?_
              refine o1 (iadd rfl rfl (by first | omega | (simp only [List.length_cons, List.length_nil, List.length_append]; omega) | (simp; omega)) (by first | omega | (simp only [List.length_cons, List.length_nil, List.length_append]; omega) | (simp; omega))) ?_
              refine o1 (mv rfl) ?_
              refine onil ?_
              refine xlq (i + 1) (by omega) (by first | omega | (simp only []; omega)) (weak [3] (by decide) (hk hH rfl) (by repeat (first | exact .n | refine .c rfl (by first | rfl | exact arq (flt_step (by omega) (by simp_all)) | exact arq (flt_skip (by omega) (by simp_all))) ?_)) (by repeat (first | exact .n | refine .c rfl (by first | rfl) ?_)))
            · try simp only [q1, q2, q3, q4, q5, q6, q7, q8, q9, q10, q11, q12, q13, q14, q15, q16, q17] at c6
              refine cskip ?_
              refine xbn ?_
              refine xthn ?_
              refine creg ?_
              refine o1 (iadd rfl rfl (by first | omega | (simp only [List.length_cons, List.length_nil, List.length_append]; omega) | (simp; omega)) (by first | omega | (simp only [List.length_cons, List.length_nil, List.length_append]; omega) | (simp; omega))) ?_
              refine o1 (mv rfl) ?_
              refine onil ?_
              refine xlq (i + 1) (by omega) (by first | omega | (simp only []; omega)) (weak [0] (by decide) (hk hH rfl) (by repeat (first | exact .n | refine .c rfl (by first | rfl | exact arq (flt_step (by omega) (by simp_all)) | exact arq (flt_skip (by omega) (by simp_all))) ?_)) (by repeat (first | exact .n | refine .c rfl (by first | rfl) ?_)))
          · try simp only [q1, q2, q3, q4, q5, q6, q7, q8, q9, q10, q11, q12, q13, q14, q15, q16, q17] at c5
            refine os rfl ?_
            refine os rfl ?_
            refine os rfl ?_
            refine os rfl ?_
            refine os rfl ?_
            refine o1 (pickF rfl rfl) ?_
            refine onil ?_
            refine xthn ?_
            refine ccF rfl ?_
            refine cskip ?_
            refine xbn ?_
            refine xthn ?_
            refine creg ?_
            refine o1 (iadd rfl rfl (by first | omega | (simp only [List.length_cons, List.length_nil, List.length_append]; omega) | (simp; omega)) (by first | omega | (simp only [List.length_cons, List.length_nil, List.length_append]; omega) | (simp; omega))) ?_
            refine o1 (mv rfl) ?_
            refine onil ?_
            refine xlq (i + 1) (by omega) (by first | omega | (simp only []; omega)) (weak [0] (by decide) (hk hH rfl) (by repeat (first | exact .n | refine .c rfl (by first | rfl | exact arq (flt_step (by omega) (by simp_all)) | exact arq (flt_skip (by omega) (by simp_all))) ?_)) (by repeat (first | exact .n | refine .c rfl (by first | rfl) ?_)))
        · try simp only [q1, q2, q3, q4, q5, q6, q7, q8, q9, q10, q11, q12, q13, q14, q15, q16, q17] at c4
          refine cexit ?_
          refine xthe ?_
          refine xle ?_
          refine xbh ?_
          refine xthn ?_
          refine cseq ?_
          have gl := good_len c1
          have pl := path_len c2
          refine creg ?_
          refine o1 (mv rfl) ?_
          refine e1 (av := .own 1) (sbs0 mi40) ?_
          refine o1 (mv rfl) ?_
          refine e1 (av := .own 2) (sapp (k := 1) rfl rfl rfl .c mi40 (L rfl) (by first | omega | (simp only [List.length_cons, List.length_nil, List.length_append]; omega) | (simp; omega)) (by first | omega | (simp only [List.length_cons, List.length_nil, List.length_append]; omega) | (simp; omega))) ?_
          refine o1 (mv rfl) ?_
          refine owk (shr (t := 51) (k := 2) rfl rfl) ?_
          refine o1 (bld pi94 zi94 (.c rfl rfl (.c rfl rfl .n)) rfl) ?_
          refine owk (shr (t := 48) (k := 0) rfl rfl) ?_
          refine ce c_spec_l15Put (_, (p, v, ())) [] [] (.c rfl (.c (.e rfl)) (.c rfl (.c (.e rfl)) (.n))) (by first | trivial | assumption | omega | (simp only []; omega) | (refine ?_; omega) | (constructor <;> omega) | (refine ⟨?_, ?_⟩ <;> (first | assumption | omega | (simp; omega)))) (by decide) (by decide) (.n) rfl (.inl rfl) ?_ (.inl rfl)
          refine owk (wsl (t := 54) (.own 3) rfl rfl) ?_
          refine owk (wnorm (.c rfl (.c rfl (.c rfl (.c (o := .arr _ _ _ _) rfl (.n))))) rfl) ?_
          refine o1 (asn rfl) ?_
          refine onil ?_
          refine xthn ?_
          refine cseq ?_
          refine cseq ?_
          have e : ((l.take i).filter fun x => !(beg x.1 p || beg p x.1)) = (l.filter fun x => !(beg x.1 p || beg p x.1)) := by rw [List.take_of_length_le (by omega)]
          have e2 : put ((l.take i).filter fun x => !(beg x.1 p || beg p x.1)) (p, v, ()) = setIn l p v := by rw [e]; rfl
          refine creg ?_
          refine o1 (mv rfl) ?_
          refine ce c_spec_GoodConfig _ [] [3] (.c rfl (.c (.o (k := 3) (by decide) rfl)) (.n)) (by first | trivial | assumption | omega | (simp only []; omega) | (refine ?_; omega) | (constructor <;> omega) | (refine ⟨?_, ?_⟩ <;> (first | assumption | omega | (simp; omega)))) (by decide) (by decide) (.n) rfl (.inr ⟨rfl, by simp [Ob.free]⟩) ?_ (.inl rfl)
          refine o1 (unot rfl) ?_
          refine onil ?_
          refine xthn ?_
          refine ccond rfl (fun c7 => ?_) (fun c7 => ?_)
          · try simp only [q1, q2, q3, q4, q5, q6, q7, q8, q9, q10, q11, q12, q13, q14, q15, q16, q17] at c7
            refine cseq ?_
            refine creg ?_
            refine o1 (asn rfl) ?_
            refine o1 (asn rfl) ?_
            refine onil ?_
            refine xthn ?_
            refine cret ?_
            refine xthr ?_
            refine retg (bs := [.nl, .c .b false]) (ob' := []) [] rfl (.t rfl (.t rfl (.n))) (by decide) (hk hH rfl) (.n) (lc rfl (lc (cq ?_) rfl)) rfl
            all_goals first | rfl | (rfl)
          · try simp only [q1, q2, q3, q4, q5, q6, q7, q8, q9, q10, q11, q12, q13, q14, q15, q16, q17] at c7
            (rw [e2] at c7; simp [cfgSet, c1, c2, c3, c7] at hx)

end Go.Proofs.YtifpekpmnlcmoaaE
