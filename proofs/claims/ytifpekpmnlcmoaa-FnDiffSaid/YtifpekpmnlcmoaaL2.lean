import Derived.Test.YtifpekpmnlcmoaaProg
import Derived.Test.YtifpekpmnlcmoaaE33
import Derived.Test.YtifpekpmnlcmoaaP1
set_option linter.unusedVariables false
set_option linter.unusedSimpArgs false
set_option maxRecDepth 100000
namespace Go.Proofs.YtifpekpmnlcmoaaE
open Go Go.RowKit Go.Shelf Go.Proofs
theorem c_laws_sameTexts : Fe Go.Proofs.Try.prog 21 (ι := StrS × StrS) (fun | (a, b) => [.c (.l KS) a, .c (.l KS) b]) (fun | (a, b) => []) (fun | (a, b) => True) (fun | (a, b) => (.c .b (decide (a = b)), [])) := by
  refine fnE (n := 26) Go.Proofs.Try.func21 rfl rfl (ent Go.Proofs.Try.func21 (by kernel_rfl) rfl) ?_
  rintro ⟨a, b⟩ hx
  refine ⟨Le rfl, fun w0 S0 H Z hH => ?_⟩
  try simp only [] at hx
  refine cseq ?_
  refine creg ?_
  refine o1 (asn rfl) ?_
  refine onil ?_
  refine xthn ?_
  refine cseq ?_
  refine cseq ?_
  refine creg ?_
  refine o1 (mv rfl) ?_
  refine ofact (t := 6) rfl fun hl1 => ?_
  refine o1 (lenl rfl li40) ?_
  refine o1 (mv rfl) ?_
  refine ofact (t := 8) rfl fun hl2 => ?_
  refine o1 (lenl rfl li40) ?_
  refine o1 (ibin rfl rfl rfl) ?_
  refine onil ?_
  refine xthn ?_
  refine ccond rfl (fun c1 => ?_) (fun c1 => ?_)
  · try simp only [q1, q2, q3, q4, q5, q6, q7, q8, q9, q10, q11, q12, q13, q14, q15, q16, q17] at c1
    refine cseq ?_
    refine creg ?_
    refine o1 (asn rfl) ?_
    refine onil ?_
    refine xthn ?_
    refine cret ?_
    refine xthr ?_
    refine retg (bs := [.c .b (decide (a = b))]) (ob' := []) [] rfl (.t rfl (.n)) (by decide) (hk hH rfl) (.n) (lc (cq ?_) rfl) rfl
    all_goals first | rfl | (exact (decide_eq_false (fun e : a = b => c1 (by rw [e]))).symm)
  · try simp only [q1, q2, q3, q4, q5, q6, q7, q8, q9, q10, q11, q12, q13, q14, q15, q16, q17] at c1
    refine cskip ?_
    refine xthn ?_
    refine cseq ?_
    refine cseq ?_
    refine creg ?_
    refine o1 (mv rfl) ?_
    refine ofact (t := 11) rfl fun hl3 => ?_
    refine o1 (lenl rfl li40) ?_
    refine o1 (mv rfl) ?_
    refine onil ?_
    refine xthn ?_
    refine cblock ?_
    refine clk (ι := Nat) (.c 0 rfl (.c 1 rfl (.c 12 rfl (.n)))) (fun i r => (13, .c (.i .i64) ((i : Int))) :: r) (fun i r => r) (fun i => i ≤ a.length ∧ a.length = b.length ∧ a.take i = b.take i) (fun i => a.length - i) 0 (by exact ⟨Nat.zero_le _, by omega, rfl⟩) (weak [] (by decide) (hk hH rfl) (by repeat (first | exact .n | refine .c rfl (by first | rfl) ?_)) (by repeat (first | exact .n | refine .c rfl (by first | rfl) ?_))) ?_
    rintro i i0
    try simp only [] at i0
    refine cseq ?_
    refine creg ?_
    refine o1 (ibin rfl rfl rfl) ?_
    refine onil ?_
    refine xthn ?_
    refine cseq ?_
    refine ccond rfl (fun c2 => ?_) (fun c2 => ?_)
    · try simp only [q1, q2, q3, q4, q5, q6, q7, q8, q9, q10, q11, q12, q13, q14, q15, q16, q17] at c2
      refine cskip ?_
      refine xthn ?_
      refine cseq ?_
      refine cblock ?_
      refine cseq ?_
      refine creg ?_
      refine o1 (mv rfl) ?_
      refine o1 (asn rfl) ?_
      refine onil ?_
      refine xthn ?_
      refine cseq ?_
      refine cregh [] mixed ?_
      refine v1 (hi := rfl) 0 (fun _ => mv rfl) ?_
      refine v1 (hi := rfl) 1 (fun _ => mv rfl) ?_
      refine v1 (hi := rfl) 2 (fun _ => ixl rfl rfl li40 rfl (by first | omega | (simp only [List.length_cons, List.length_nil, List.length_append]; omega) | (simp; omega)) (by first | omega | (simp only [List.length_cons, List.length_nil, List.length_append]; omega) | (simp; omega))) ?_
      refine v1 (hi := rfl) 3 (fun _ => ldr rfl ti9) ?_
      refine v1 (hi := rfl) 4 (fun _ => mv rfl) ?_
      refine v1 (hi := rfl) 5 (fun _ => mv rfl) ?_
      refine v1 (hi := rfl) 6 (fun _ => ixl rfl rfl li40 rfl (by first | omega | (simp only [List.length_cons, List.length_nil, List.length_append]; omega) | (simp; omega)) (by first | omega | (simp only [List.length_cons, List.length_nil, List.length_append]; omega) | (simp; omega))) ?_
      refine v1 (hi := rfl) 7 (fun _ => ldr rfl ti9) ?_
      refine v1 (hi := rfl) 8 (fun _ => sbin rfl rfl rfl) ?_
      refine h9 ?_
      refine xthn ?_
      refine ccond rfl (fun c3 => ?_) (fun c3 => ?_)
      · try simp only [q1, q2, q3, q4, q5, q6, q7, q8, q9, q10, q11, q12, q13, q14, q15, q16, q17] at c3
        refine cseq ?_
        refine creg ?_
        refine o1 (asn rfl) ?_
        refine onil ?_
        refine xthn ?_
        refine cret ?_
        refine xbr ?_
        refine xthr ?_
        refine xlr ?_
        refine xbr ?_
        refine xthr ?_
        refine retg (bs := [.c .b (decide (a = b))]) (ob' := []) [] rfl (.t rfl (.n)) (by decide) (hk hH rfl) (.n) (lc (cq ?_) rfl) rfl
        all_goals first | rfl | (exact (decide_eq_false (fun e : a = b => c3 (by rw [e]))).symm)
      · try simp only [q1, q2, q3, q4, q5, q6, q7, q8, q9, q10, q11, q12, q13, q14, q15, q16, q17] at c3
        refine cskip ?_
        refine xbn ?_
        refine xthn ?_
        refine creg ?_
        refine o1 (iadd rfl rfl (by first | omega | (simp only [List.length_cons, List.length_nil, List.length_append]; omega) | (simp; omega)) (by first | omega | (simp only [List.length_cons, List.length_nil, List.length_append]; omega) | (simp; omega))) ?_
        refine o1 (mv rfl) ?_
        refine onil ?_
        refine xlq (i + 1) (by refine ⟨by omega, i0.2.1, ?_⟩; rw [take_ix (z := KS.z) (by omega), take_ix (z := KS.z) (by omega), i0.2.2]; exact congrArg (fun q => List.take i b ++ [q]) (Prod.ext c3 rfl)) (by first | omega | (simp only []; omega)) (weak [] (by decide) (hk hH rfl) (by repeat (first | exact .n | refine .c rfl (by first | rfl) ?_)) (by repeat (first | exact .n | refine .c rfl (by first | rfl) ?_)))
    · try simp only [q1, q2, q3, q4, q5, q6, q7, q8, q9, q10, q11, q12, q13, q14, q15, q16, q17] at c2
      refine cexit ?_
      refine xthe ?_
      refine xle ?_
      refine xbh ?_
      refine xthn ?_
      refine cseq ?_
      refine creg ?_
      refine o1 (asn rfl) ?_
      refine onil ?_
      refine xthn ?_
      refine cret ?_
      refine retg (bs := [.c .b (decide (a = b))]) (ob' := []) [] rfl (.t rfl (.n)) (by decide) (hk hH rfl) (.n) (lc (cq ?_) rfl) rfl
      all_goals first | rfl | (exact (decide_eq_true (take_all i0.2.2 (by omega) (by omega))).symm)

theorem c_laws_sameLeaves : Fe Go.Proofs.Try.prog 23 (ι := Leafs × Leafs) (fun | (a, b) => [.c (.l KRLSzSz) a, .c (.l KRLSzSz) b]) (fun | (a, b) => []) (fun | (a, b) => True) (fun | (a, b) => (.c .b (decide (a = b)), [])) := by
  refine fnE (n := 42) Go.Proofs.Try.func23 rfl rfl (ent Go.Proofs.Try.func23 (by kernel_rfl) rfl) ?_
  rintro ⟨a, b⟩ hx
  refine ⟨Le rfl, fun w0 S0 H Z hH => ?_⟩
  try simp only [] at hx
  refine cseq ?_
  refine creg ?_
  refine o1 (asn rfl) ?_
  refine onil ?_
  refine xthn ?_
  refine cseq ?_
  refine cseq ?_
  refine creg ?_
  refine o1 (mv rfl) ?_
  refine ofact (t := 6) rfl fun hl1 => ?_
  refine o1 (lenl rfl li26) ?_
  refine o1 (mv rfl) ?_
  refine ofact (t := 8) rfl fun hl2 => ?_
  refine o1 (lenl rfl li26) ?_
  refine o1 (ibin rfl rfl rfl) ?_
  refine onil ?_
  refine xthn ?_
  refine ccond rfl (fun c1 => ?_) (fun c1 => ?_)
  · try simp only [q1, q2, q3, q4, q5, q6, q7, q8, q9, q10, q11, q12, q13, q14, q15, q16, q17] at c1
    refine cseq ?_
    refine creg ?_
    refine o1 (asn rfl) ?_
    refine onil ?_
    refine xthn ?_
    refine cret ?_
    refine xthr ?_
    refine retg (bs := [.c .b (decide (a = b))]) (ob' := []) [] rfl (.t rfl (.n)) (by decide) (hk hH rfl) (.n) (lc (cq ?_) rfl) rfl
    all_goals first | rfl | (exact (decide_eq_false (fun e : a = b => c1 (by rw [e]))).symm)
  · try simp only [q1, q2, q3, q4, q5, q6, q7, q8, q9, q10, q11, q12, q13, q14, q15, q16, q17] at c1
    refine cskip ?_
    refine xthn ?_
    refine cseq ?_
    refine cseq ?_
    refine creg ?_
    refine o1 (mv rfl) ?_
    refine ofact (t := 11) rfl fun hl3 => ?_
    refine o1 (lenl rfl li26) ?_
    refine o1 (mv rfl) ?_
    refine onil ?_
    refine xthn ?_
    refine cblock ?_
    refine clk (ι := Nat) (.c 0 rfl (.c 1 rfl (.c 12 rfl (.n)))) (fun i r => (13, .c (.i .i64) ((i : Int))) :: r) (fun i r => r) (fun i => i ≤ a.length ∧ a.length = b.length ∧ a.take i = b.take i) (fun i => a.length - i) 0 (by exact ⟨Nat.zero_le _, by omega, rfl⟩) (weak [] (by decide) (hk hH rfl) (by repeat (first | exact .n | refine .c rfl (by first | rfl) ?_)) (by repeat (first | exact .n | refine .c rfl (by first | rfl) ?_))) ?_
    rintro i i0
    try simp only [] at i0
    refine cseq ?_
    refine creg ?_
    refine o1 (ibin rfl rfl rfl) ?_
    refine onil ?_
    refine xthn ?_
    refine cseq ?_
    refine ccond rfl (fun c2 => ?_) (fun c2 => ?_)
    · try simp only [q1, q2, q3, q4, q5, q6, q7, q8, q9, q10, q11, q12, q13, q14, q15, q16, q17] at c2
      refine cskip ?_
      refine xthn ?_
      refine cseq ?_
      refine cblock ?_
      refine cseq ?_
      refine creg ?_
      refine o1 (mv rfl) ?_
      refine o1 (asn rfl) ?_
      refine onil ?_
      refine xthn ?_
      refine cseq ?_
      refine cregh [] mixed ?_
      refine v1 (hi := rfl) 0 (fun _ => mv rfl) ?_
      refine v1 (hi := rfl) 1 (fun _ => mv rfl) ?_
      refine v1 (hi := rfl) 2 (fun _ => ixl rfl rfl li26 rfl (by first | omega | (simp only [List.length_cons, List.length_nil, List.length_append]; omega) | (simp; omega)) (by first | omega | (simp only [List.length_cons, List.length_nil, List.length_append]; omega) | (simp; omega))) ?_
      refine v1 (hi := rfl) 3 (fun _ => far rfl fi94_1 (Le rfl)) ?_
      refine v1 (hi := rfl) 4 (fun _ => ldr rfl ti9) ?_
      refine v1 (hi := rfl) 5 (fun _ => mv rfl) ?_
      refine v1 (hi := rfl) 6 (fun _ => mv rfl) ?_
      refine v1 (hi := rfl) 7 (fun _ => ixl rfl rfl li26 rfl (by first | omega | (simp only [List.length_cons, List.length_nil, List.length_append]; omega) | (simp; omega)) (by first | omega | (simp only [List.length_cons, List.length_nil, List.length_append]; omega) | (simp; omega))) ?_
      refine v1 (hi := rfl) 8 (fun _ => far rfl fi94_1 (Le rfl)) ?_
      refine v1 (hi := rfl) 9 (fun _ => ldr rfl ti9) ?_
      refine v1 (hi := rfl) 10 (fun _ => sbin rfl rfl rfl) ?_
      refine v1 (hi := rfl) 11 (fun _ => mv rfl) ?_
      refine hcase (t := 27) rfl (fun c3 => ?_) (fun c3 => ?_)
      · try simp only [q1, q2, q3, q4, q5, q6, q7, q8, q9, q10, q11, q12, q13, q14, q15, q16, q17] at c3
        refine vs 12 rfl ?_
        refine vs 13 rfl ?_
        refine vs 14 rfl ?_
        refine vs 15 rfl ?_
        refine vs 16 rfl ?_
        refine vs 17 rfl ?_
        refine vs 18 rfl ?_
        refine vs 19 rfl ?_
        refine vs 20 rfl ?_
        refine vs 21 rfl ?_
        refine vs 22 rfl ?_
        refine vs 23 rfl ?_
        refine v1 (hi := rfl) 24 (fun _ => pickT rfl rfl) ?_
        refine h9 ?_
        refine xthn ?_
        refine ccT rfl ?_
        refine cseq ?_
        refine creg ?_
        refine o1 (asn rfl) ?_
        refine onil ?_
        refine xthn ?_
        refine cret ?_
        refine xbr ?_
        refine xthr ?_
        refine xlr ?_
        refine xbr ?_
        refine xthr ?_
        refine retg (bs := [.c .b (decide (a = b))]) (ob' := []) [] rfl (.t rfl (.n)) (by decide) (hk hH rfl) (.n) (lc (cq ?_) rfl) rfl
        all_goals first | rfl | (exact (decide_eq_false (fun e : a = b => c3 (by rw [e]))).symm)
      · try simp only [q1, q2, q3, q4, q5, q6, q7, q8, q9, q10, q11, q12, q13, q14, q15, q16, q17] at c3
        refine vg (hi := rfl) 12 (fun _ => mv rfl) ?_
        refine vg (hi := rfl) 13 (fun _ => mv rfl) ?_
        refine vg (hi := rfl) 14 (fun _ => ixl rfl rfl li26 rfl (by first | omega | (simp only [List.length_cons, List.length_nil, List.length_append]; omega) | (simp; omega)) (by first | omega | (simp only [List.length_cons, List.length_nil, List.length_append]; omega) | (simp; omega))) ?_
        refine vg (hi := rfl) 15 (fun _ => far rfl fi94_0 (Le rfl)) ?_
        refine vg (hi := rfl) 16 (fun _ => ldr rfl ti40) ?_
        refine vg (hi := rfl) 17 (fun _ => mv rfl) ?_
        refine vg (hi := rfl) 18 (fun _ => mv rfl) ?_
        refine vg (hi := rfl) 19 (fun _ => ixl rfl rfl li26 rfl (by first | omega | (simp only [List.length_cons, List.length_nil, List.length_append]; omega) | (simp; omega)) (by first | omega | (simp only [List.length_cons, List.length_nil, List.length_append]; omega) | (simp; omega))) ?_
        refine vg (hi := rfl) 20 (fun _ => far rfl fi94_0 (Le rfl)) ?_
        refine vg (hi := rfl) 21 (fun _ => ldr rfl ti40) ?_
        refine hn1 (n := 22) ?_
        refine xce (hi := rfl) c_laws_sameTexts (_, _) [] [] [] (.c rfl (.c (.e rfl)) (.c rfl (.c (.e rfl)) (.n))) (by first | trivial | assumption | omega | (simp only []; omega) | (refine ?_; omega) | (constructor <;> omega) | (refine ⟨?_, ?_⟩ <;> (first | assumption | omega | (simp; omega)))) (by decide) (by decide) (.n) rfl (.inl rfl) ?_ (wgd rfl rfl rfl)
        refine vg (hi := rfl) 23 (fun _ => unot rfl) ?_
        refine v1 (hi := rfl) 24 (fun _ => pickF rfl rfl) ?_
        refine h9 ?_
        refine xthn ?_
        refine ccond rfl (fun c4 => ?_) (fun c4 => ?_)
        · try simp only [q1, q2, q3, q4, q5, q6, q7, q8, q9, q10, q11, q12, q13, q14, q15, q16, q17] at c4
          refine cseq ?_
          refine creg ?_
          refine o1 (asn rfl) ?_
          refine onil ?_
          refine xthn ?_
          refine cret ?_
          refine xbr ?_
          refine xthr ?_
          refine xlr ?_
          refine xbr ?_
          refine xthr ?_
          refine retg (bs := [.c .b (decide (a = b))]) (ob' := []) [] rfl (.t rfl (.n)) (by decide) (hk hH rfl) (.n) (lc (cq ?_) rfl) rfl
          all_goals first | rfl | (exact (decide_eq_false (fun e : a = b => c4 (by rw [e]))).symm)
        · try simp only [q1, q2, q3, q4, q5, q6, q7, q8, q9, q10, q11, q12, q13, q14, q15, q16, q17] at c4
          refine cskip ?_
          refine xbn ?_
          refine xthn ?_
          refine creg ?_
          refine o1 (iadd rfl rfl (by first | omega | (simp only [List.length_cons, List.length_nil, List.length_append]; omega) | (simp; omega)) (by first | omega | (simp only [List.length_cons, List.length_nil, List.length_append]; omega) | (simp; omega))) ?_
          refine o1 (mv rfl) ?_
          refine onil ?_
          refine xlq (i + 1) (by refine ⟨by omega, i0.2.1, ?_⟩; rw [take_ix (z := KRLSzSz.z) (by omega), take_ix (z := KRLSzSz.z) (by omega), i0.2.2]; exact congrArg (fun q => List.take i b ++ [q]) (Prod.ext c4 (Prod.ext c3 rfl))) (by first | omega | (simp only []; omega)) (weak [] (by decide) (hk hH rfl) (by repeat (first | exact .n | refine .c rfl (by first | rfl) ?_)) (by repeat (first | exact .n | refine .c rfl (by first | rfl) ?_)))
    · try simp only [q1, q2, q3, q4, q5, q6, q7, q8, q9, q10, q11, q12, q13, q14, q15, q16, q17] at c2
      refine cexit ?_
      refine xthe ?_
      refine xle ?_
      refine xbh ?_
      refine xthn ?_
      refine cseq ?_
      refine creg ?_
      refine o1 (asn rfl) ?_
      refine onil ?_
      refine xthn ?_
      refine cret ?_
      refine retg (bs := [.c .b (decide (a = b))]) (ob' := []) [] rfl (.t rfl (.n)) (by decide) (hk hH rfl) (.n) (lc (cq ?_) rfl) rfl
      all_goals first | rfl | (exact (decide_eq_true (take_all i0.2.2 (by omega) (by omega))).symm)

theorem c_laws_FnDiff : Fe Go.Proofs.Try.prog 5 (ι := List KB.den × List KB.den) (fun | (x, y) => [.c (.l KB) x, .c (.l KB) y]) (fun | (x, y) => []) (fun | (x, y) => x.length ≤ 140737488355328 ∧ y.length ≤ 140737488355328) (fun | (x, y) => (.c .b true, [])) := by
  refine fnE (n := 181) Go.Proofs.Try.func5 rfl rfl (ent Go.Proofs.Try.func5 (by kernel_rfl) rfl) ?_
  rintro ⟨x, y⟩ hx
  refine ⟨Le rfl, fun w0 S0 H Z hH => ?_⟩
  try simp only [] at hx
  refine cseq ?_
  refine creg ?_
  refine o1 (asn rfl) ?_
  refine onil ?_
  refine xthn ?_
  refine cseq ?_
  refine cseq ?_
  refine creg ?_
  refine o1 (mv rfl) ?_
  refine ofact (t := 25) rfl fun hl1 => ?_
  refine o1 (lenl rfl li34) ?_
  refine o1 (mv rfl) ?_
  refine ofact (t := 27) rfl fun hl2 => ?_
  refine o1 (lenl rfl li34) ?_
  refine o1 (iadd rfl rfl (by first | omega | (simp only [List.length_cons, List.length_nil, List.length_append]; omega) | (simp; omega)) (by first | omega | (simp only [List.length_cons, List.length_nil, List.length_append]; omega) | (simp; omega))) ?_
  refine o1 (ibin rfl rfl rfl) ?_
  refine onil ?_
  refine xthn ?_
  refine ccond rfl (fun c1 => ?_) (fun c1 => ?_)
  · try simp only [q1, q2, q3, q4, q5, q6, q7, q8, q9, q10, q11, q12, q13, q14, q15, q16, q17] at c1
    refine cseq ?_
    refine creg ?_
    refine o1 (asn rfl) ?_
    refine onil ?_
    refine xthn ?_
    refine cret ?_
    refine xthr ?_
    refine retg (bs := [.c .b true]) (ob' := []) [] rfl (.t rfl (.n)) (by decide) (hk hH rfl) (.n) (lc (cq ?_) rfl) rfl
    all_goals first | rfl | (first | rfl | (simp_all; done) | (exact (cfgDo_good (by simpa using c16)).symm) | (exact cfgDo_good (by simpa using c16)))
  · try simp only [q1, q2, q3, q4, q5, q6, q7, q8, q9, q10, q11, q12, q13, q14, q15, q16, q17] at c1
    refine cskip ?_
    refine xthn ?_
    refine cseq ?_
    refine creg ?_
    refine o1 (mv rfl) ?_
    refine cl c_spec_DrawDiffOf _ [] [] (.c rfl (.c (.e rfl)) (.n)) (by first | trivial | assumption | omega | (simp only []; omega) | (refine ?_; omega) | (constructor <;> omega) | (refine ⟨?_, ?_⟩ <;> (first | assumption | omega | (simp; omega)))) (by decide) (by decide) (.n) (fun | (_, _) => Le rfl) (.inl rfl) ?_ (.inl rfl)
    rintro ⟨a1, b1⟩ hy1
    try simp only [] at hy1
    refine o1 (mv rfl) ?_
    refine o1 (xtr rfl rfl) ?_
    refine o1 (xtr rfl rfl) ?_
    refine o1 (asn rfl) ?_
    refine o1 (asn rfl) ?_
    refine onil ?_
    refine xthn ?_
    refine cseq ?_
    refine creg ?_
    refine o1 (mv rfl) ?_
    refine o1 (mv rfl) ?_
    refine ce c_impl_DiffOf (_, _) [] [] (.c rfl (.c (.e rfl)) (.c rfl (.c (.e rfl)) (.n))) (by first | trivial | assumption | omega | (simp only []; omega) | (refine ?_; omega) | (constructor <;> omega) | (refine ⟨?_, ?_⟩ <;> (first | assumption | omega | (simp; omega)))) (by decide) (by decide) (.n) rfl (.inl rfl) ?_ (.inl rfl)
    refine o1 (mv rfl) ?_
    refine o1 (av := .own 0) (xtr rfl rfl) ?_
    refine o1 (xtr rfl rfl) ?_
    refine o1 (asn rfl) ?_
    refine o1 (asn rfl) ?_
    refine onil ?_
    refine xthn ?_
    refine cseq ?_
    refine creg ?_
    refine o1 (mv rfl) ?_
    refine o1 (mv rfl) ?_
    refine ce c_spec_DiffOf (_, _) [] [] (.c rfl (.c (.e rfl)) (.c rfl (.c (.e rfl)) (.n))) (by first | trivial | assumption | omega | (simp only []; omega) | (refine ?_; omega) | (constructor <;> omega) | (refine ⟨?_, ?_⟩ <;> (first | assumption | omega | (simp; omega)))) (by decide) (by decide) (.n) rfl (.inl rfl) ?_ (.inl rfl)
    refine o1 (mv rfl) ?_
    refine o1 (xtr rfl rfl) ?_
    refine o1 (xtr rfl rfl) ?_
    refine o1 (asn rfl) ?_
    refine o1 (asn rfl) ?_
    refine onil ?_
    refine xthn ?_
    refine cseq ?_
    refine cseq ?_
    refine cwk (shr (t := 7) (k := 0) rfl rfl) ?_
    refine cwk (wsl (t := 9) (.c (.l KROLSzSz) ((cfgDiff a1 b1).1)) rfl (ccv (by rw [cfgDiff_eq]))) ?_
    refine cwk (wsl (t := 10) (.c (.b) ((cfgDiff a1 b1).2)) rfl (ccv (by rw [cfgDiff_eq]))) ?_
    refine cwk (wnorm (.c rfl (.n)) rfl) ?_
    refine creg ?_
    refine o1 (mv rfl) ?_
    refine o1 (mv rfl) ?_
    refine o1 (bneq rfl rfl ub4) ?_
    refine o1 (mv rfl) ?_
    refine ocase (t := 51) rfl (fun c2 => ?_) (fun c2 => ?_)
    · try simp only [q1, q2, q3, q4, q5, q6, q7, q8, q9, q10, q11, q12, q13, q14, q15, q16, q17] at c2
      simp at c2
    · try simp only [q1, q2, q3, q4, q5, q6, q7, q8, q9, q10, q11, q12, q13, q14, q15, q16, q17] at c2
      refine og (mv rfl) ?_
      refine ofact (t := 52) rfl fun hl3 => ?_
      refine og (lenl rfl li37) ?_
      refine og (mv rfl) ?_
      refine ofact (t := 54) rfl fun hl4 => ?_
      refine og (lenl rfl li37) ?_
      refine og (ibin rfl rfl rfl) ?_
      refine o1 (pickF rfl rfl) ?_
      refine onil ?_
      refine xthn ?_
      refine ccond rfl (fun c3 => ?_) (fun c3 => ?_)
      · try simp only [q1, q2, q3, q4, q5, q6, q7, q8, q9, q10, q11, q12, q13, q14, q15, q16, q17] at c3
        simp at c3
      · try simp only [q1, q2, q3, q4, q5, q6, q7, q8, q9, q10, q11, q12, q13, q14, q15, q16, q17] at c3
        refine cskip ?_
        refine xthn ?_
        refine cseq ?_
        refine cseq ?_
        refine creg ?_
        refine o1 (mv rfl) ?_
        refine ofact (t := 58) rfl fun hl5 => ?_
        refine o1 (lenl rfl li37) ?_
        refine o1 (mv rfl) ?_
        refine onil ?_
        refine xthn ?_
        refine cblock ?_
        refine clk (ι := Nat) (.c 1 rfl (.c 5 rfl (.c 6 rfl (.c 7 rfl (.c 8 rfl (.c 9 rfl (.c 59 rfl (.n)))))))) (fun i r => (60, .c (.i .i64) ((i : Int))) :: r) (fun i r => r) (fun i => i ≤ (cfgDiff a1 b1).1.length) (fun i => (cfgDiff a1 b1).1.length - i) 0 (by exact Nat.zero_le _) (weak [0] (by decide) (hk hH rfl) (by repeat (first | exact .n | refine .c rfl (by first | rfl) ?_)) (by repeat (first | exact .n | refine .c rfl (by first | rfl) ?_))) ?_
        rintro i i0
        try simp only [] at i0
        refine cseq ?_
        refine creg ?_
        refine o1 (ibin rfl rfl rfl) ?_
        refine onil ?_
        refine xthn ?_
        refine cseq ?_
        refine ccond rfl (fun c4 => ?_) (fun c4 => ?_)
        · try simp only [q1, q2, q3, q4, q5, q6, q7, q8, q9, q10, q11, q12, q13, q14, q15, q16, q17] at c4
          refine cskip ?_
          refine xthn ?_
          refine cseq ?_
          refine cblock ?_
          refine cseq ?_
          refine creg ?_
          refine o1 (mv rfl) ?_
          refine o1 (asn rfl) ?_
          refine onil ?_
          refine xthn ?_
          refine cseq ?_
          refine cregh [] mixed ?_
          refine v1 (hi := rfl) 0 (fun _ => mv rfl) ?_
          refine v1 (hi := rfl) 1 (fun _ => mv rfl) ?_
          refine v1 (hi := rfl) 2 (fun _ => ixl rfl rfl li37 rfl (by first | omega | (simp only [List.length_cons, List.length_nil, List.length_append]; omega) | (simp; omega)) (by first | omega | (simp only [List.length_cons, List.length_nil, List.length_append]; omega) | (simp; omega))) ?_
          refine v1 (hi := rfl) 3 (fun _ => far rfl fi42_0 (Le rfl)) ?_
          refine v1 (hi := rfl) 4 (fun _ => ldr rfl ti4) ?_
          refine v1 (hi := rfl) 5 (fun _ => mv rfl) ?_
          refine v1 (hi := rfl) 6 (fun _ => mv rfl) ?_
          refine v1 (hi := rfl) 7 (fun _ => ixl rfl rfl li37 rfl (by first | omega | (simp only [List.length_cons, List.length_nil, List.length_append]; omega) | (simp; omega)) (by first | omega | (simp only [List.length_cons, List.length_nil, List.length_append]; omega) | (simp; omega))) ?_
          refine v1 (hi := rfl) 8 (fun _ => far rfl fi42_0 (Le rfl)) ?_
          refine v1 (hi := rfl) 9 (fun _ => ldr rfl ti4) ?_
          refine v1 (hi := rfl) 10 (fun _ => bneq rfl rfl ub4) ?_
          refine v1 (hi := rfl) 11 (fun _ => mv rfl) ?_
          refine hcase (t := 74) rfl (fun c5 => ?_) (fun c5 => ?_)
          · try simp only [q1, q2, q3, q4, q5, q6, q7, q8, q9, q10, q11, q12, q13, q14, q15, q16, q17] at c5
            simp at c5
          · try simp only [q1, q2, q3, q4, q5, q6, q7, q8, q9, q10, q11, q12, q13, q14, q15, q16, q17] at c5
            refine vg (hi := rfl) 12 (fun _ => mv rfl) ?_
            refine vg (hi := rfl) 13 (fun _ => mv rfl) ?_
            refine vg (hi := rfl) 14 (fun _ => ixl rfl rfl li37 rfl (by first | omega | (simp only [List.length_cons, List.length_nil, List.length_append]; omega) | (simp; omega)) (by first | omega | (simp only [List.length_cons, List.length_nil, List.length_append]; omega) | (simp; omega))) ?_
            refine vg (hi := rfl) 15 (fun _ => far rfl fi42_2 (Le rfl)) ?_
            refine vg (hi := rfl) 16 (fun _ => ldr rfl ti9) ?_
            refine vg (hi := rfl) 17 (fun _ => mv rfl) ?_
            refine vg (hi := rfl) 18 (fun _ => mv rfl) ?_
            refine vg (hi := rfl) 19 (fun _ => ixl rfl rfl li37 rfl (by first | omega | (simp only [List.length_cons, List.length_nil, List.length_append]; omega) | (simp; omega)) (by first | omega | (simp only [List.length_cons, List.length_nil, List.length_append]; omega) | (simp; omega))) ?_
            refine vg (hi := rfl) 20 (fun _ => far rfl fi42_2 (Le rfl)) ?_
            refine vg (hi := rfl) 21 (fun _ => ldr rfl ti9) ?_
            refine vg (hi := rfl) 22 (fun _ => sbin rfl rfl rfl) ?_
            refine v1 (hi := rfl) 23 (fun _ => pickF rfl rfl) ?_
            refine v1 (hi := rfl) 24 (fun _ => mv rfl) ?_
            refine hcase (t := 87) rfl (fun c6 => ?_) (fun c6 => ?_)
            · try simp only [q1, q2, q3, q4, q5, q6, q7, q8, q9, q10, q11, q12, q13, q14, q15, q16, q17] at c6
              simp at c6
            · try simp only [q1, q2, q3, q4, q5, q6, q7, q8, q9, q10, q11, q12, q13, q14, q15, q16, q17] at c6
              refine vg (hi := rfl) 25 (fun _ => mv rfl) ?_
              refine vg (hi := rfl) 26 (fun _ => mv rfl) ?_
              refine vg (hi := rfl) 27 (fun _ => ixl rfl rfl li37 rfl (by first | omega | (simp only [List.length_cons, List.length_nil, List.length_append]; omega) | (simp; omega)) (by first | omega | (simp only [List.length_cons, List.length_nil, List.length_append]; omega) | (simp; omega))) ?_
              refine vg (hi := rfl) 28 (fun _ => far rfl fi42_1 (Le rfl)) ?_
              refine vg (hi := rfl) 29 (fun _ => ldr rfl ti40) ?_
              refine vg (hi := rfl) 30 (fun _ => mv rfl) ?_
              refine vg (hi := rfl) 31 (fun _ => mv rfl) ?_
              refine vg (hi := rfl) 32 (fun _ => ixl rfl rfl li37 rfl (by first | omega | (simp only [List.length_cons, List.length_nil, List.length_append]; omega) | (simp; omega)) (by first | omega | (simp only [List.length_cons, List.length_nil, List.length_append]; omega) | (simp; omega))) ?_
              refine vg (hi := rfl) 33 (fun _ => far rfl fi42_1 (Le rfl)) ?_
              refine vg (hi := rfl) 34 (fun _ => ldr rfl ti40) ?_
              refine hn1 (n := 35) ?_
              refine xce (hi := rfl) c_laws_sameTexts (_, _) [] [] [] (.c rfl (.c (.e rfl)) (.c rfl (.c (.e rfl)) (.n))) (by first | trivial | assumption | omega | (simp only []; omega) | (refine ?_; omega) | (constructor <;> omega) | (refine ⟨?_, ?_⟩ <;> (first | assumption | omega | (simp; omega)))) (by decide) (by decide) (.n) rfl (.inl rfl) ?_ (wgd rfl rfl rfl)
              refine vg (hi := rfl) 36 (fun _ => unot rfl) ?_
              refine v1 (hi := rfl) 37 (fun _ => pickF rfl rfl) ?_
              refine h9 ?_
              refine xthn ?_
              refine ccond rfl (fun c7 => ?_) (fun c7 => ?_)
              · try simp only [q1, q2, q3, q4, q5, q6, q7, q8, q9, q10, q11, q12, q13, q14, q15, q16, q17] at c7
                simp at c7
              · try simp only [q1, q2, q3, q4, q5, q6, q7, q8, q9, q10, q11, q12, q13, q14, q15, q16, q17] at c7
                refine cskip ?_
                refine xbn ?_
                refine xthn ?_
                refine creg ?_
                refine o1 (iadd rfl rfl (by first | omega | (simp only [List.length_cons, List.length_nil, List.length_append]; omega) | (simp; omega)) (by first | omega | (simp only [List.length_cons, List.length_nil, List.length_append]; omega) | (simp; omega))) ?_
                refine o1 (mv rfl) ?_
                refine onil ?_
                refine xlq (i + 1) (by omega) (by first | omega | (simp only []; omega)) (weak [0] (by decide) (hk hH rfl) (by repeat (first | exact .n | refine .c rfl (by first | rfl) ?_)) (by repeat (first | exact .n | refine .c rfl (by first | rfl) ?_)))
        · try simp only [q1, q2, q3, q4, q5, q6, q7, q8, q9, q10, q11, q12, q13, q14, q15, q16, q17] at c4
          refine cexit ?_
          refine xthe ?_
          refine xle ?_
          refine xbh ?_
          refine xthn ?_
          refine cmk (ι := Unit) (.c 1 rfl (.n)) (fun u r => r) (fun u r => r) (fun u => True) ?_ ?_
          ·
            refine cseq ?_
            refine creg ?_
            refine o1 (mv rfl) ?_
            refine onil ?_
            refine xthn ?_
            refine ccond rfl (fun c8 => ?_) (fun c8 => ?_)
            · try simp only [q1, q2, q3, q4, q5, q6, q7, q8, q9, q10, q11, q12, q13, q14, q15, q16, q17] at c8
              refine cseq ?_
              have gg : good a1 = true ∧ good b1 = true := by have h := c8; rw [cfgDiff_eq] at h; simpa using h
              have hd : (cfgDiff a1 b1).1 = delS b1 a1 ++ setS a1 b1 := by rw [cfgDiff_eq]; exact if_pos gg
              have hdo : cfgDo a1 (cfgDiff a1 b1).1 = (b1, true) := by rw [hd]; exact do_diff gg.1 gg.2
              have hz : ((((cfgDiff a1 b1).1.length : Int)) == 0) = decide (a1 = b1) := by rw [hd, Bool.eq_iff_iff, decide_eq_true_iff, ← diff_nil gg.1 gg.2, beq_iff_eq, ← List.length_eq_zero_iff]; omega
              refine creg ?_
              refine o1 (mv rfl) ?_
              refine o1 (mv rfl) ?_
              refine ce c_impl_DoCommands (_, _) [] [] (.c rfl (.c (.e rfl)) (.c rfl (.c (.e rfl)) (.n))) (by first | trivial | assumption | omega | (simp only []; omega) | (refine ?_; omega) | (constructor <;> omega) | (refine ⟨?_, ?_⟩ <;> (first | assumption | omega | (simp; omega)))) (by decide) (by decide) (.n) rfl (.inl rfl) ?_ (.inl rfl)
              refine o1 (mv rfl) ?_
              refine o1 (av := .own 1) (xtr rfl rfl) ?_
              refine o1 (xtr rfl rfl) ?_
              refine o1 (asn rfl) ?_
              refine o1 (asn rfl) ?_
              refine onil ?_
              refine xthn ?_
              refine cseq ?_
              refine cwk (shr (t := 12) (k := 1) rfl rfl) ?_
              refine cwk (wsl (t := 12) (.c (.l KRLSzSz) (b1)) rfl (ccv (by rw [hdo]))) ?_
              refine cwk (wsl (t := 13) (.c (.b) (true)) rfl (ccv (by rw [hdo]))) ?_
              refine creg ?_
              refine o1 (mv rfl) ?_
              refine o1 (unot rfl) ?_
              refine o1 (mv rfl) ?_
              refine ocase (t := 111) rfl (fun c9 => ?_) (fun c9 => ?_)
              · try simp only [q1, q2, q3, q4, q5, q6, q7, q8, q9, q10, q11, q12, q13, q14, q15, q16, q17] at c9
                simp at c9
              · try simp only [q1, q2, q3, q4, q5, q6, q7, q8, q9, q10, q11, q12, q13, q14, q15, q16, q17] at c9
                refine og (mv rfl) ?_
                refine og (mv rfl) ?_
                refine ce c_laws_sameLeaves (_, _) [] [] (.c rfl (.c (.e rfl)) (.c rfl (.c (.e rfl)) (.n))) (by first | trivial | assumption | omega | (simp only []; omega) | (refine ?_; omega) | (constructor <;> omega) | (refine ⟨?_, ?_⟩ <;> (first | assumption | omega | (simp; omega)))) (by decide) (by decide) (.n) rfl (.inl rfl) ?_ (wgd rfl rfl rfl)
                refine og (unot rfl) ?_
                refine o1 (pickF rfl rfl) ?_
                refine o1 (mv rfl) ?_
                refine ocase (t := 117) rfl (fun c10 => ?_) (fun c10 => ?_)
                · try simp only [q1, q2, q3, q4, q5, q6, q7, q8, q9, q10, q11, q12, q13, q14, q15, q16, q17] at c10
                  simp at c10
                · try simp only [q1, q2, q3, q4, q5, q6, q7, q8, q9, q10, q11, q12, q13, q14, q15, q16, q17] at c10
                  refine og (mv rfl) ?_
                  refine ofact (t := 118) rfl fun hl6 => ?_
                  refine og (lenl rfl li37) ?_
                  refine og (ibin rfl rfl rfl) ?_
                  refine og (mv rfl) ?_
                  refine og (mv rfl) ?_
                  refine ce c_laws_sameLeaves (_, _) [] [] (.c rfl (.c (.e rfl)) (.c rfl (.c (.e rfl)) (.n))) (by first | trivial | assumption | omega | (simp only []; omega) | (refine ?_; omega) | (constructor <;> omega) | (refine ⟨?_, ?_⟩ <;> (first | assumption | omega | (simp; omega)))) (by decide) (by decide) (.n) rfl (.inl rfl) ?_ (wgd rfl rfl rfl)
                  refine owk (wnorm (.c rfl (.c rfl (.n))) rfl) ?_
                  refine og (bneq rfl rfl ub4) ?_
                  refine o1 (pickF rfl rfl) ?_
                  refine onil ?_
                  refine xthn ?_
                  refine ccond rfl (fun c11 => ?_) (fun c11 => ?_)
                  · try simp only [q1, q2, q3, q4, q5, q6, q7, q8, q9, q10, q11, q12, q13, q14, q15, q16, q17] at c11
                    rw [hz] at c11; simp at c11
                  · try simp only [q1, q2, q3, q4, q5, q6, q7, q8, q9, q10, q11, q12, q13, q14, q15, q16, q17] at c11
                    refine cskip ?_
                    exact xmq () (by trivial) (weak [0] (by decide) (hk hH rfl) (by repeat (first | exact .n | refine .c rfl (by first | rfl) ?_)) (by repeat (first | exact .n | refine .c rfl (by first | rfl) ?_)))
            · try simp only [q1, q2, q3, q4, q5, q6, q7, q8, q9, q10, q11, q12, q13, q14, q15, q16, q17] at c8
              refine cskip ?_
              exact xmq () (by trivial) (weak [0] (by decide) (hk hH rfl) (by repeat (first | exact .n | refine .c rfl (by first | rfl) ?_)) (by repeat (first | exact .n | refine .c rfl (by first | rfl) ?_)))
          rintro u mc15
          try simp only [] at mc15
          refine cseq ?_
          refine creg ?_
          refine o1 (mv rfl) ?_
          refine cl c_spec_DrawDoCommands _ [] [] (.c rfl (.c (.e rfl)) (.n)) (by first | trivial | assumption | omega | (simp only []; omega) | (refine ?_; omega) | (constructor <;> omega) | (refine ⟨?_, ?_⟩ <;> (first | assumption | omega | (simp; omega)))) (by decide) (by decide) (.n) (fun | (_, _) => Le rfl) (.inl rfl) ?_ (.inl rfl)
          rintro ⟨l2, c2⟩ hy2
          try simp only [] at hy2
          refine o1 (mv rfl) ?_
          refine o1 (xtr rfl rfl) ?_
          refine o1 (xtr rfl rfl) ?_
          refine o1 (asn rfl) ?_
          refine o1 (asn rfl) ?_
          refine onil ?_
          refine xthn ?_
          refine cseq ?_
          refine creg ?_
          refine o1 (mv rfl) ?_
          refine o1 (mv rfl) ?_
          refine ce c_impl_DoCommands (_, _) [] [] (.c rfl (.c (.e rfl)) (.c rfl (.c (.e rfl)) (.n))) (by first | trivial | assumption | omega | (simp only []; omega) | (refine ?_; omega) | (constructor <;> omega) | (refine ⟨?_, ?_⟩ <;> (first | assumption | omega | (simp; omega)))) (by decide) (by decide) (.n) rfl (.inl rfl) ?_ (.inl rfl)
          refine o1 (mv rfl) ?_
          refine o1 (av := .own 1) (xtr rfl rfl) ?_
          refine o1 (xtr rfl rfl) ?_
          refine o1 (asn rfl) ?_
          refine o1 (asn rfl) ?_
          refine onil ?_
          refine xthn ?_
          refine cseq ?_
          refine creg ?_
          refine o1 (mv rfl) ?_
          refine o1 (mv rfl) ?_
          refine ce c_spec_DoCommands (_, _) [] [] (.c rfl (.c (.e rfl)) (.c rfl (.c (.e rfl)) (.n))) (by first | trivial | assumption | omega | (simp only []; omega) | (refine ?_; omega) | (constructor <;> omega) | (refine ⟨?_, ?_⟩ <;> (first | assumption | omega | (simp; omega)))) (by decide) (by decide) (.n) rfl (.inl rfl) ?_ (.inl rfl)
          refine o1 (mv rfl) ?_
          refine o1 (xtr rfl rfl) ?_
          refine o1 (xtr rfl rfl) ?_
          refine o1 (asn rfl) ?_
          refine o1 (asn rfl) ?_
          refine onil ?_
          refine xthn ?_
          refine cseq ?_
          refine creg ?_
          refine o1 (mv rfl) ?_
          refine cl c_spec_DrawCommandText _ [] [] (.c rfl (.c (.e rfl)) (.n)) (by first | trivial | assumption | omega | (simp only []; omega) | (refine ?_; omega) | (constructor <;> omega) | (refine ⟨?_, ?_⟩ <;> (first | assumption | omega | (simp; omega)))) (by decide) (by decide) (.n) (fun | (_, _, _) => Le rfl) (.inl rfl) ?_ (.inl rfl)
          rintro ⟨b3, p3, v3⟩ hy3
          try simp only [] at hy3
          refine owk (wnorm (.c rfl (.c (o := .arr _ _ _ _) rfl (.n))) rfl) ?_
          refine e1 (av := .bp 2 0) (salloc zi42) ?_
          refine e0 (sstn rfl rfl rfl rfl (Le rfl) ti42) ?_
          refine onil ?_
          refine xthn ?_
          refine cseq ?_
          refine creg ?_
          refine o1 (ldbn rfl rfl ti42 (Le rfl)) ?_
          refine ce c_impl_CommandText (b3, p3, v3, ()) [] [] (.c rfl (.c (.e rfl)) (.n)) (by first | trivial | assumption | omega | (simp only []; omega) | (refine ?_; omega) | (constructor <;> omega) | (refine ⟨?_, ?_⟩ <;> (first | assumption | omega | (simp; omega)))) (by decide) (by decide) (.n) rfl (.inl rfl) ?_ (.inl rfl)
          refine o1 (mv rfl) ?_
          refine o1 (xtr rfl rfl) ?_
          refine o1 (xtr rfl rfl) ?_
          refine o1 (asn rfl) ?_
          refine o1 (asn rfl) ?_
          refine onil ?_
          refine xthn ?_
          refine cseq ?_
          refine creg ?_
          refine o1 (ldbn rfl rfl ti42 (Le rfl)) ?_
          refine ce c_spec_CommandText (b3, p3, v3, ()) [] [] (.c rfl (.c (.e rfl)) (.n)) (by first | trivial | assumption | omega | (simp only []; omega) | (refine ?_; omega) | (constructor <;> omega) | (refine ⟨?_, ?_⟩ <;> (first | assumption | omega | (simp; omega)))) (by decide) (by decide) (.n) rfl (.inl rfl) ?_ (.inl rfl)
          refine owk (wnorm (.c rfl (.c (o := .arr _ _ _ _) rfl (.c (o := .box _ _) rfl (.n)))) rfl) ?_
          refine o1 (mv rfl) ?_
          refine o1 (xtr rfl rfl) ?_
          refine o1 (xtr rfl rfl) ?_
          refine o1 (asn rfl) ?_
          refine o1 (asn rfl) ?_
          refine onil ?_
          refine xthn ?_
          refine cseq ?_
          refine cwk (shr (t := 16) (k := 1) rfl rfl) ?_
          refine creg ?_
          refine o1 (mv rfl) ?_
          refine o1 (mv rfl) ?_
          refine o1 (beql rfl rfl ub4) ?_
          refine o1 (mv rfl) ?_
          refine ocase (t := 158) rfl (fun c12 => ?_) (fun c12 => ?_)
          · try simp only [q1, q2, q3, q4, q5, q6, q7, q8, q9, q10, q11, q12, q13, q14, q15, q16, q17] at c12
            refine og (mv rfl) ?_
            refine og (mv rfl) ?_
            refine ce c_laws_sameLeaves (_, _) [] [] (.c rfl (.c (.e rfl)) (.c rfl (.c (.e rfl)) (.n))) (by first | trivial | assumption | omega | (simp only []; omega) | (refine ?_; omega) | (constructor <;> omega) | (refine ⟨?_, ?_⟩ <;> (first | assumption | omega | (simp; omega)))) (by decide) (by decide) (.n) rfl (.inl rfl) ?_ (wgd rfl rfl rfl)
            refine o1 (pickT rfl rfl) ?_
            refine o1 (mv rfl) ?_
            refine ocase (t := 163) rfl (fun c13 => ?_) (fun c13 => ?_)
            · try simp only [q1, q2, q3, q4, q5, q6, q7, q8, q9, q10, q11, q12, q13, q14, q15, q16, q17] at c13
              refine og (mv rfl) ?_
              refine og (mv rfl) ?_
              refine og (beql rfl rfl ub4) ?_
              refine o1 (pickT rfl rfl) ?_
              refine o1 (mv rfl) ?_
              refine ocase (t := 168) rfl (fun c14 => ?_) (fun c14 => ?_)
              · try simp only [q1, q2, q3, q4, q5, q6, q7, q8, q9, q10, q11, q12, q13, q14, q15, q16, q17] at c14
                refine og (mv rfl) ?_
                refine og (mv rfl) ?_
                refine og (sbin rfl rfl rfl) ?_
                refine o1 (pickT rfl rfl) ?_
                refine o1 (mv rfl) ?_
                refine ocase (t := 173) rfl (fun c15 => ?_) (fun c15 => ?_)
                · try simp only [q1, q2, q3, q4, q5, q6, q7, q8, q9, q10, q11, q12, q13, q14, q15, q16, q17] at c15
                  refine og (mv rfl) ?_
                  refine og (unot rfl) ?_
                  refine og (mv rfl) ?_
                  refine ocase (t := 176) rfl (fun c16 => ?_) (fun c16 => ?_)
                  · try simp only [q1, q2, q3, q4, q5, q6, q7, q8, q9, q10, q11, q12, q13, q14, q15, q16, q17] at c16
                    refine os rfl ?_
                    refine os rfl ?_
                    refine og (pickT rfl rfl) ?_
                    refine o1 (pickT rfl rfl) ?_
                    refine o1 (asn rfl) ?_
                    refine onil ?_
                    refine xthn ?_
                    refine cret ?_
                    refine retg (bs := [.c .b true]) (ob' := []) [] rfl (.t rfl (.n)) (by decide) (hk hH rfl) (.n) (lc (cq ?_) rfl) rfl
                    all_goals first | rfl | (first | rfl | (simp_all; done) | (exact (cfgDo_good (by simpa using c16)).symm) | (exact cfgDo_good (by simpa using c16)))
                  · try simp only [q1, q2, q3, q4, q5, q6, q7, q8, q9, q10, q11, q12, q13, q14, q15, q16, q17] at c16
                    refine og (mv rfl) ?_
                    refine ce c_impl_GoodConfig _ [] [] (.c rfl (.c (.e rfl)) (.n)) (by first | trivial | assumption | omega | (simp only []; omega) | (refine ?_; omega) | (constructor <;> omega) | (refine ⟨?_, ?_⟩ <;> (first | assumption | omega | (simp; omega)))) (by decide) (by decide) (.n) rfl (.inl rfl) ?_ (wgd rfl rfl rfl)
                    refine og (pickF rfl rfl) ?_
                    refine o1 (pickT rfl rfl) ?_
                    refine o1 (asn rfl) ?_
                    refine onil ?_
                    refine xthn ?_
                    refine cret ?_
                    refine xwk (wnorm (.c rfl (.c rfl (.c (o := .box _ _) rfl (.n)))) rfl) ?_
                    refine retg (bs := [.c .b true]) (ob' := []) [] rfl (.t rfl (.n)) (by decide) (hk hH rfl) (.n) (lc (cq ?_) rfl) rfl
                    all_goals first | rfl | (first | rfl | (simp_all; done) | (exact (cfgDo_good (by simpa using c16)).symm) | (exact cfgDo_good (by simpa using c16)))
                · try simp only [q1, q2, q3, q4, q5, q6, q7, q8, q9, q10, q11, q12, q13, q14, q15, q16, q17] at c15
                  simp at c15
              · try simp only [q1, q2, q3, q4, q5, q6, q7, q8, q9, q10, q11, q12, q13, q14, q15, q16, q17] at c14
                simp at c14
            · try simp only [q1, q2, q3, q4, q5, q6, q7, q8, q9, q10, q11, q12, q13, q14, q15, q16, q17] at c13
              simp at c13
          · try simp only [q1, q2, q3, q4, q5, q6, q7, q8, q9, q10, q11, q12, q13, q14, q15, q16, q17] at c12
            simp at c12

end Go.Proofs.YtifpekpmnlcmoaaE
