import Derived.Test.YtifpekpmnlcmoaaProg
import Derived.Test.YtifpekpmnlcmoaaE33
import Derived.Test.YtifpekpmnlcmoaaC1
import Derived.Test.YtifpekpmnlcmoaaS2
set_option linter.unusedVariables false
set_option linter.unusedSimpArgs false
set_option maxRecDepth 100000
namespace Go.Proofs.YtifpekpmnlcmoaaE
open Go Go.RowKit Go.Shelf Go.Proofs

/-- A path of a bounded size. -/
def SmP (p : StrS) : Prop := p.length ≤ 8 ∧ ∀ w ∈ p, w.1.length ≤ 9
theorem cfgSet_good {l : Leafs} {p : StrS} {v : List UInt8} (h : (cfgSet l p v).2 = true) : good (cfgSet l p v).1 = true := by
  unfold cfgSet at h ⊢
  split at h
  · rename_i hc; rw [if_pos hc]; exact hc.2.2.2
  · cases h
/-- A configuration of a bounded size. -/
def SmL (l : Leafs) : Prop := l.length ≤ 40 ∧ ∀ x ∈ l, SmP x.1 ∧ x.2.1.length ≤ 9
theorem good_SmL {l : Leafs} (h : good l = true) : SmL l := by
  refine ⟨Nat.le_trans (good_len h) (by omega), fun x hx => ?_⟩
  have hm := good_mem h hx
  have h1 := path_len hm.1
  have h2 := word_len hm.2
  exact ⟨⟨by omega, fun w hw => Nat.le_trans (path_mem hm.1 w hw) (by omega)⟩, by omega⟩
theorem SmL_set {l : Leafs} {i : Nat} {y : KRLSzSz.den} (h : SmL l) (hy : SmP y.1 ∧ y.2.1.length ≤ 9) : SmL (l.set i y) := by
  refine ⟨by rw [List.length_set]; exact h.1, fun x hx => ?_⟩
  rcases List.mem_or_eq_of_mem_set hx with h2 | rfl
  · exact h.2 x h2
  · exact hy

theorem of_len {l : List KS.den} {x : List UInt8} (h : ∃ i : Nat, i < l.length ∧ x = (ix KS.z l (i : Int)).1) (hl : ∀ w ∈ l, w.1.length ≤ 9) : x.length ≤ 9 := by
  obtain ⟨i, hi, rfl⟩ := h
  exact hl _ (ix_mem (z := KS.z) hi)

theorem c_spec_l1Cur_configPath : Fr Go.Proofs.Try.prog 76 (ι := List KB.den × Int × Int) (κ := Int × Int × StrS) (fun | (code, n, s) => [.bp 0 0]) (fun | (code, n, s) => [.box 120 [.c (.l KB) code, .c (.i .i64) (n), .c (.i .u64) (s)]]) (fun | (code, n, s) => 0 ≤ n ∧ n ≤ 4611686018427387904 - 12 ∧ code.length ≤ 4611686018427387904) (fun | (code, n, s), (n2, s2, p) => n ≤ n2 ∧ n2 ≤ n + 12 ∧ SmP p) (fun | (code, n, s), (n2, s2, p) => (.c (.l KS) p, [.box 120 [.c (.l KB) code, .c (.i .i64) (n2), .c (.i .u64) (s2)]])) := by
  refine fnEr (n := 33) Go.Proofs.Try.func76 rfl rfl (ent Go.Proofs.Try.func76 (by kernel_rfl) rfl) ?_
  rintro ⟨code, n, s⟩ hx
  refine ⟨Le rfl, fun w0 S0 H Z hH => ?_⟩
  try simp only [] at hx
  refine cseq ?_
  refine creg ?_
  refine o1 (asn rfl) ?_
  refine onil ?_
  refine xthn ?_
  refine cseq ?_
  refine creg ?_
  refine o1 (asn rfl) ?_
  refine onil ?_
  refine xthn ?_
  refine cseq ?_
  refine cseq ?_
  refine creg ?_
  refine o1 (mv rfl) ?_
  refine cl c_spec_l1Cur_pick (_, _, _, _) [0] [] (.c rfl (.c (.e rfl)) (.c rfl (.c (.e rfl)) (.n))) (by first | trivial | assumption | omega | (simp only []; omega) | (refine ?_; omega) | (constructor <;> omega) | (refine ⟨?_, ?_⟩ <;> (first | assumption | omega | (simp; omega)))) (by decide) (by decide) (.c rfl rfl (.n)) (fun | (_, _, _) => Le rfl) (.inl rfl) ?_ (.inl rfl)
  rintro ⟨n21, s21, x1⟩ hy1
  try simp only [] at hy1
  refine o1 (iadd rfl rfl (by first | omega | (simp only [List.length_cons, List.length_nil, List.length_append]; omega) | (simp; omega)) (by first | omega | (simp only [List.length_cons, List.length_nil, List.length_append]; omega) | (simp; omega))) ?_
  refine o1 (asn rfl) ?_
  refine onil ?_
  refine xthn ?_
  refine cblock ?_
  refine cwk (wno (t := 3) false 9 KS rfl) ?_
  refine clk (ι := Int × StrS × Int × Int) (.c 0 rfl (.n)) (fun | (k, p, m, q), r => (4, .c (.i .i64) (k)) :: (3, .own 1) :: r) (fun | (k, p, m, q), r => (r.set 0 (.box 120 [.c (.l KB) code, .c (.i .i64) (m), .c (.i .u64) (q)])).set 1 (.arr false 9 KS (p))) (fun | (k, p, m, q) => 0 ≤ k ∧ (p.length : Int) + k = 1 + x1 ∧ n ≤ m ∧ m ≤ n + 2 + 2 * p.length ∧ ∀ w ∈ p, w.1.length ≤ 9) (fun | (k, p, m, q) => k.toNat) (1 + x1, [], n21, s21) (by refine ⟨by omega, by simp, by omega, by simp; omega, by simp⟩) (weak [0, 1] (by decide) (hk hH rfl) (by repeat (first | exact .n | refine .c rfl (by first | rfl) ?_)) (by repeat (first | exact .n | refine .c rfl (by first | rfl) ?_))) ?_
  rintro ⟨k, p, m, q⟩ i0
  try simp only [] at i0
  refine cseq ?_
  refine cseq ?_
  refine creg ?_
  refine o1 (mv rfl) ?_
  refine o1 (ibin rfl rfl rfl) ?_
  refine onil ?_
  refine xthn ?_
  refine ccond rfl (fun c1 => ?_) (fun c1 => ?_)
  · try simp only [q1, q2, q3, q4, q5, q6, q7, q8, q9, q10, q11, q12, q13, q14, q15, q16, q17] at c1
    refine cskip ?_
    refine xthn ?_
    refine cseq ?_
    refine cblock ?_
    refine creg ?_
    refine o1 (mv rfl) ?_
    refine o1 (mv rfl) ?_
    refine e1 (av := .own 2) (sbsn mi40 (L rfl) (Le rfl) rfl (.c rfl .c (.c rfl .c (.c rfl .c (.c rfl .c .n)))) rfl) ?_
    refine owk (wnorm (.c (o := .box _ _) rfl (.c (o := .arr _ _ _ _) rfl (.c (o := .arr _ _ _ _) rfl (.n)))) rfl) ?_
    refine owk (shr (t := 14) (k := 2) rfl rfl) ?_
    refine cl c_spec_l1Cur_of (_, _, _, _) [0] [] (.c rfl (.c (.e rfl)) (.c rfl (.c (.e rfl)) (.n))) (by first | trivial | assumption | omega | (simp only []; omega) | (refine ?_; omega) | (constructor <;> omega) | (refine ⟨?_, ?_⟩ <;> (first | assumption | omega | (simp; omega)))) (by decide) (by decide) (.c rfl rfl (.n)) (fun | (_, _, _) => Le rfl) (.inl rfl) ?_ (.inl rfl)
    rintro ⟨n22, s22, x2⟩ hy2
    try simp only [] at hy2
    have w2 := of_len hy2.2.2 (by decide)
    refine e1 (av := .own 3) (sbs1 mi40 (L rfl) (Le rfl) rfl .c) ?_
    refine e1 (av := .own 4) (sapp (k := 1) rfl rfl rfl (.o (j := 3) rfl rfl) mi40 (L rfl) (by first | omega | (simp only [List.length_cons, List.length_nil, List.length_append]; omega) | (simp; omega)) (by first | omega | (simp only [List.length_cons, List.length_nil, List.length_append]; omega) | (simp; omega))) ?_
    refine owk (wnorm (.c (o := .box _ _) rfl (.c rfl (.c rfl (.c (o := .arr _ _ _ _) rfl (.c (o := .arr _ _ _ _) rfl (.n)))))) rfl) ?_
    refine o1 (asn rfl) ?_
    refine onil ?_
    refine xbn ?_
    refine xthn ?_
    refine creg ?_
    refine o1 (mv rfl) ?_
    refine o1 (isub rfl rfl (by first | omega | (simp only [List.length_cons, List.length_nil, List.length_append]; omega) | (simp; omega)) (by first | omega | (simp only [List.length_cons, List.length_nil, List.length_append]; omega) | (simp; omega))) ?_
    refine o1 (asn rfl) ?_
    refine onil ?_
    refine xlq (k - 1, p ++ [(x2, ())], n22, s22) (by refine ⟨by omega, by simp only [List.length_append, List.length_cons, List.length_nil]; omega, by omega, by simp only [List.length_append, List.length_cons, List.length_nil]; omega, fun w hw => ?_⟩; rcases List.mem_append.1 hw with h | h; exact i0.2.2.2.2 w h; rw [List.mem_singleton] at h; subst h; exact w2) (by first | omega | (simp only []; omega)) (weak [0, 4] (by decide) (hk hH rfl) (by repeat (first | exact .n | refine .c rfl (by first | rfl) ?_)) (by repeat (first | exact .n | refine .c rfl (by first | rfl) ?_)))
  · try simp only [q1, q2, q3, q4, q5, q6, q7, q8, q9, q10, q11, q12, q13, q14, q15, q16, q17] at c1
    refine cexit ?_
    refine xthe ?_
    refine xle ?_
    refine xbh ?_
    refine xthn ?_
    refine cseq ?_
    refine cseq ?_
    refine creg ?_
    refine o1 (mv rfl) ?_
    refine cl c_spec_l1Cur_pick (_, _, _, _) [0] [] (.c rfl (.c (.e rfl)) (.c rfl (.c (.e rfl)) (.n))) (by first | trivial | assumption | omega | (simp only []; omega) | (refine ?_; omega) | (constructor <;> omega) | (refine ⟨?_, ?_⟩ <;> (first | assumption | omega | (simp; omega)))) (by decide) (by decide) (.c rfl rfl (.n)) (fun | (_, _, _) => Le rfl) (.inl rfl) ?_ (.inl rfl)
    rintro ⟨n23, s23, x3⟩ hy3
    try simp only [] at hy3
    refine owk (wnorm (.c (o := .box _ _) rfl (.c (o := .arr _ _ _ _) rfl (.n))) rfl) ?_
    refine onil ?_
    refine xthn ?_
    refine cblock ?_
    refine cseq ?_
    refine creg ?_
    refine o1 (ibin rfl rfl rfl) ?_
    refine o1 (asn rfl) ?_
    refine onil ?_
    refine xthn ?_
    refine ccond rfl (fun c2 => ?_) (fun c2 => ?_)
    · try simp only [q1, q2, q3, q4, q5, q6, q7, q8, q9, q10, q11, q12, q13, q14, q15, q16, q17] at c2
      refine creg ?_
      refine o1 (mv rfl) ?_
      refine o1 (mv rfl) ?_
      refine e1 (av := .own 2) (sbsn mi40 (L rfl) (Le rfl) rfl (.c rfl .c (.c rfl .c (.c rfl .c .n))) rfl) ?_
      refine owk (shr (t := 24) (k := 2) rfl rfl) ?_
      refine cl c_spec_l1Cur_of (_, _, _, _) [0] [] (.c rfl (.c (.e rfl)) (.c rfl (.c (.e rfl)) (.n))) (by first | trivial | assumption | omega | (simp only []; omega) | (refine ?_; omega) | (constructor <;> omega) | (refine ⟨?_, ?_⟩ <;> (first | assumption | omega | (simp; omega)))) (by decide) (by decide) (.c rfl rfl (.n)) (fun | (_, _, _) => Le rfl) (.inl rfl) ?_ (.inl rfl)
      rintro ⟨n24, s24, x4⟩ hy4
      try simp only [] at hy4
      have w4 := of_len hy4.2.2 (by decide)
      refine o1 (ixo rfl rfl rfl li40 rfl (by first | omega | (simp only [List.length_cons, List.length_nil, List.length_append]; omega) | (simp; omega)) (by first | omega | (simp only [List.length_cons, List.length_nil, List.length_append]; omega) | (simp; omega))) ?_
      refine e0 (sste rfl rfl (by first | omega | (simp only [List.length_cons, List.length_nil, List.length_append]; omega) | (simp; omega)) rfl .c ti9) ?_
      refine owk (wnorm (.c (o := .box _ _) rfl (.c (o := .arr _ _ _ _) rfl (.c rfl (.n)))) rfl) ?_
      refine onil ?_
      refine xbn ?_
      refine xthn ?_
      refine cseq ?_
      refine creg ?_
      refine o1 (mv rfl) ?_
      refine o1 (asn rfl) ?_
      refine onil ?_
      refine xthn ?_
      refine cret ?_
      refine xwk (shr (t := 2) (k := 1) rfl rfl) ?_
      refine rety2 (_, _, _) (retg (bs := [.c (.l KS) _]) (ob' := [.box 120 [.c (.l KB) code, .c (.i .i64) (_), .c (.i .u64) (_)]]) [0] rfl (.t rfl (.n)) (by decide) (hk hH rfl) (.c rfl rfl (.n)) (lc rfl rfl) rfl) ?_
      try simp only []
      refine ⟨by omega, by omega, by rw [List.length_set]; omega, fun w hw => ?_⟩
      rcases List.mem_or_eq_of_mem_set hw with h | h
      exact i0.2.2.2.2 w h
      subst h; exact w4
    · try simp only [q1, q2, q3, q4, q5, q6, q7, q8, q9, q10, q11, q12, q13, q14, q15, q16, q17] at c2
      refine cseq ?_
      refine creg ?_
      refine o1 (ibin rfl rfl rfl) ?_
      refine o1 (asn rfl) ?_
      refine onil ?_
      refine xthn ?_
      refine ccond rfl (fun c3 => ?_) (fun c3 => ?_)
      · try simp only [q1, q2, q3, q4, q5, q6, q7, q8, q9, q10, q11, q12, q13, q14, q15, q16, q17] at c3
        refine creg ?_
        refine o1 (mv rfl) ?_
        refine e1 (av := .own 2) (sbsn mi40 (L rfl) (Le rfl) rfl (.c rfl .c (.c rfl .c (.c rfl .c (.c rfl .c (.c rfl .c .n))))) rfl) ?_
        refine e1 (av := .own 3) (sapp (k := 1) rfl rfl rfl (.o (j := 2) rfl rfl) mi40 (L rfl) (by first | omega | (simp only [List.length_cons, List.length_nil, List.length_append]; omega) | (simp; omega)) (by first | omega | (simp only [List.length_cons, List.length_nil, List.length_append]; omega) | (simp; omega))) ?_
        refine o1 (asn rfl) ?_
        refine onil ?_
        refine xbn ?_
        refine xthn ?_
        refine cseq ?_
        refine creg ?_
        refine o1 (mv rfl) ?_
        refine o1 (asn rfl) ?_
        refine onil ?_
        refine xthn ?_
        refine cret ?_
        refine xwk (wnorm (.c (o := .box _ _) rfl (.c rfl (.c (o := .arr _ _ _ _) rfl (.c (o := .arr _ _ _ _) rfl (.n))))) rfl) ?_
        refine xwk (shr (t := 2) (k := 3) rfl rfl) ?_
        refine rety2 (_, _, _) (retg (bs := [.c (.l KS) _]) (ob' := [.box 120 [.c (.l KB) code, .c (.i .i64) (_), .c (.i .u64) (_)]]) [0] rfl (.t rfl (.n)) (by decide) (hk hH rfl) (.c rfl rfl (.n)) (lc rfl rfl) rfl) ?_
        try simp only []
        refine ⟨by omega, by omega, by simp only [List.length_append, List.length_cons, List.length_nil]; omega, fun w hw => ?_⟩
        rcases List.mem_append.1 hw with h | h
        exact i0.2.2.2.2 w h
        exact (by decide : ∀ w ∈ ([([97], ()), ([98], ()), ([99], ()), ([100], ()), ([101], ())] : List KS.den), w.1.length ≤ 9) w h
      · try simp only [q1, q2, q3, q4, q5, q6, q7, q8, q9, q10, q11, q12, q13, q14, q15, q16, q17] at c3
        refine cskip ?_
        refine xbn ?_
        refine xthn ?_
        refine cseq ?_
        refine creg ?_
        refine o1 (mv rfl) ?_
        refine o1 (asn rfl) ?_
        refine onil ?_
        refine xthn ?_
        refine cret ?_
        refine xwk (shr (t := 2) (k := 1) rfl rfl) ?_
        refine rety2 (_, _, _) (retg (bs := [.c (.l KS) _]) (ob' := [.box 120 [.c (.l KB) code, .c (.i .i64) (_), .c (.i .u64) (_)]]) [0] rfl (.t rfl (.n)) (by decide) (hk hH rfl) (.c rfl rfl (.n)) (lc rfl rfl) rfl) ?_
        try simp only []
        exact ⟨by omega, by omega, by omega, i0.2.2.2.2⟩

theorem c_spec_l1Cur_configValue : Fr Go.Proofs.Try.prog 77 (ι := List KB.den × Int × Int) (κ := Int × Int × List UInt8) (fun | (code, n, s) => [.bp 0 0]) (fun | (code, n, s) => [.box 120 [.c (.l KB) code, .c (.i .i64) (n), .c (.i .u64) (s)]]) (fun | (code, n, s) => 0 ≤ n ∧ n ≤ 4611686018427387904 - 4 ∧ code.length ≤ 4611686018427387904) (fun | (code, n, s), (n2, s2, x) => n ≤ n2 ∧ n2 ≤ n + 4 ∧ x.length ≤ 9) (fun | (code, n, s), (n2, s2, x) => (.c .s x, [.box 120 [.c (.l KB) code, .c (.i .i64) (n2), .c (.i .u64) (s2)]])) := by
  refine fnEr (n := 11) Go.Proofs.Try.func77 rfl rfl (ent Go.Proofs.Try.func77 (by kernel_rfl) rfl) ?_
  rintro ⟨code, n, s⟩ hx
  refine ⟨Le rfl, fun w0 S0 H Z hH => ?_⟩
  try simp only [] at hx
  refine cseq ?_
  refine creg ?_
  refine o1 (asn rfl) ?_
  refine onil ?_
  refine xthn ?_
  refine cseq ?_
  refine cseq ?_
  refine creg ?_
  refine o1 (mv rfl) ?_
  refine cl c_spec_l1Cur_one (_, _, _, _) [0] [] (.c rfl (.c (.e rfl)) (.c rfl (.c (.e rfl)) (.n))) (by first | trivial | assumption | omega | (simp only []; omega) | (refine ?_; omega) | (constructor <;> omega) | (refine ⟨?_, ?_⟩ <;> (first | assumption | omega | (simp; omega)))) (by decide) (by decide) (.c rfl rfl (.n)) (fun | (_, _, _) => Le rfl) (.inl rfl) ?_ (.inl rfl)
  rintro ⟨n21, s21, x1⟩ hy1
  try simp only [] at hy1
  refine onil ?_
  refine xthn ?_
  refine ccond rfl (fun c1 => ?_) (fun c1 => ?_)
  · try simp only [q1, q2, q3, q4, q5, q6, q7, q8, q9, q10, q11, q12, q13, q14, q15, q16, q17] at c1
    refine cseq ?_
    refine creg ?_
    refine o1 (mv rfl) ?_
    refine e1 (av := .own 1) (sbsn mi40 (L rfl) (Le rfl) rfl (.c rfl .c (.c rfl .c (.c rfl .c .n))) rfl) ?_
    refine owk (shr (t := 6) (k := 1) rfl rfl) ?_
    refine cl c_spec_l1Cur_of (_, _, _, _) [0] [] (.c rfl (.c (.e rfl)) (.c rfl (.c (.e rfl)) (.n))) (by first | trivial | assumption | omega | (simp only []; omega) | (refine ?_; omega) | (constructor <;> omega) | (refine ⟨?_, ?_⟩ <;> (first | assumption | omega | (simp; omega)))) (by decide) (by decide) (.c rfl rfl (.n)) (fun | (_, _, _) => Le rfl) (.inl rfl) ?_ (.inl rfl)
    rintro ⟨n22, s22, x2⟩ hy2
    try simp only [] at hy2
    have w2 := of_len hy2.2.2 (by decide)
    refine owk (wnorm (.c (o := .box _ _) rfl (.c rfl (.n))) rfl) ?_
    refine o1 (asn rfl) ?_
    refine onil ?_
    refine xthn ?_
    refine cret ?_
    refine xthr ?_
    refine rety2 (_, _, _) (retg (bs := [.c .s _]) (ob' := [.box 120 [.c (.l KB) code, .c (.i .i64) (_), .c (.i .u64) (_)]]) [0] rfl (.t rfl (.n)) (by decide) (hk hH rfl) (.c rfl rfl (.n)) (lc rfl rfl) rfl) ?_
    try simp only []
    exact ⟨by omega, by omega, w2⟩
  · try simp only [q1, q2, q3, q4, q5, q6, q7, q8, q9, q10, q11, q12, q13, q14, q15, q16, q17] at c1
    refine cskip ?_
    refine xthn ?_
    refine cseq ?_
    refine creg ?_
    refine o1 (mv rfl) ?_
    refine e1 (av := .own 1) (sbsn mi40 (L rfl) (Le rfl) rfl (.c rfl .c (.c rfl .c (.c rfl .c (.c rfl .c .n)))) rfl) ?_
    refine owk (shr (t := 9) (k := 1) rfl rfl) ?_
    refine cl c_spec_l1Cur_of (_, _, _, _) [0] [] (.c rfl (.c (.e rfl)) (.c rfl (.c (.e rfl)) (.n))) (by first | trivial | assumption | omega | (simp only []; omega) | (refine ?_; omega) | (constructor <;> omega) | (refine ⟨?_, ?_⟩ <;> (first | assumption | omega | (simp; omega)))) (by decide) (by decide) (.c rfl rfl (.n)) (fun | (_, _, _) => Le rfl) (.inl rfl) ?_ (.inl rfl)
    rintro ⟨n23, s23, x3⟩ hy3
    try simp only [] at hy3
    have w3 := of_len hy3.2.2 (by decide)
    refine owk (wnorm (.c (o := .box _ _) rfl (.c rfl (.n))) rfl) ?_
    refine o1 (asn rfl) ?_
    refine onil ?_
    refine xthn ?_
    refine cret ?_
    refine rety2 (_, _, _) (retg (bs := [.c .s _]) (ob' := [.box 120 [.c (.l KB) code, .c (.i .i64) (_), .c (.i .u64) (_)]]) [0] rfl (.t rfl (.n)) (by decide) (hk hH rfl) (.c rfl rfl (.n)) (lc rfl rfl) rfl) ?_
    try simp only []
    exact ⟨by omega, by omega, w3⟩

theorem c_spec_l1Cur_config : Fr Go.Proofs.Try.prog 73 (ι := List KB.den × Int × Int) (κ := Int × Int × Leafs) (fun | (code, n, s) => [.bp 0 0]) (fun | (code, n, s) => [.box 120 [.c (.l KB) code, .c (.i .i64) (n), .c (.i .u64) (s)]]) (fun | (code, n, s) => 0 ≤ n ∧ n ≤ 4611686018427387904 - 700 ∧ code.length ≤ 4611686018427387904) (fun | (code, n, s), (n2, s2, l) => n ≤ n2 ∧ n2 ≤ n + 700 ∧ SmL l) (fun | (code, n, s), (n2, s2, l) => (.own 1, [.box 120 [.c (.l KB) code, .c (.i .i64) (n2), .c (.i .u64) (s2)], .arr false 94 KRLSzSz l])) := by
  refine fnEr (n := 53) Go.Proofs.Try.func73 rfl rfl (ent Go.Proofs.Try.func73 (by kernel_rfl) rfl) ?_
  rintro ⟨code, n, s⟩ hx
  refine ⟨Le rfl, fun w0 S0 H Z hH => ?_⟩
  try simp only [] at hx
  refine cseq ?_
  refine creg ?_
  refine o1 (asn rfl) ?_
  refine onil ?_
  refine xthn ?_
  refine cseq ?_
  refine creg ?_
  refine o1 (asn rfl) ?_
  refine onil ?_
  refine xthn ?_
  refine cseq ?_
  refine creg ?_
  refine o1 (mv rfl) ?_
  refine cl c_spec_l1Cur_pick (_, _, _, _) [0] [] (.c rfl (.c (.e rfl)) (.c rfl (.c (.e rfl)) (.n))) (by first | trivial | assumption | omega | (simp only []; omega) | (refine ?_; omega) | (constructor <;> omega) | (refine ⟨?_, ?_⟩ <;> (first | assumption | omega | (simp; omega)))) (by decide) (by decide) (.c rfl rfl (.n)) (fun | (_, _, _) => Le rfl) (.inl rfl) ?_ (.inl rfl)
  rintro ⟨n21, s21, x1⟩ hy1
  try simp only [] at hy1
  refine o1 (asn rfl) ?_
  refine onil ?_
  refine xthn ?_
  refine cmk (ι := Int × Int × Int) (.c 0 rfl (.c 3 rfl (.n))) (fun | (k, m0, q0), r => (4, .c (.i .i64) (k)) :: r) (fun | (k, m0, q0), r => r.set 0 (.box 120 [.c (.l KB) code, .c (.i .i64) (m0), .c (.i .u64) (q0)])) (fun | (k, m0, q0) => 0 ≤ k ∧ k ≤ 40 ∧ n ≤ m0 ∧ m0 ≤ n + 4) ?_ ?_
  ·
    refine cseq ?_
    refine creg ?_
    refine o1 (mv rfl) ?_
    refine cl c_spec_l1Cur_one (_, _, _, _) [0] [] (.c rfl (.c (.e rfl)) (.c rfl (.c (.e rfl)) (.n))) (by first | trivial | assumption | omega | (simp only []; omega) | (refine ?_; omega) | (constructor <;> omega) | (refine ⟨?_, ?_⟩ <;> (first | assumption | omega | (simp; omega)))) (by decide) (by decide) (.c rfl rfl (.n)) (fun | (_, _, _) => Le rfl) (.inl rfl) ?_ (.inl rfl)
    rintro ⟨n22, s22, x2⟩ hy2
    try simp only [] at hy2
    refine onil ?_
    refine xthn ?_
    refine ccond rfl (fun c1 => ?_) (fun c1 => ?_)
    · try simp only [q1, q2, q3, q4, q5, q6, q7, q8, q9, q10, q11, q12, q13, q14, q15, q16, q17] at c1
      refine creg ?_
      refine o1 (asn rfl) ?_
      refine onil ?_
      exact xmq (40, n22, s22) (by simp only []; omega) (weak [0] (by decide) (hk hH rfl) (by repeat (first | exact .n | refine .c rfl (by first | rfl) ?_)) (by repeat (first | exact .n | refine .c rfl (by first | rfl) ?_)))
    · try simp only [q1, q2, q3, q4, q5, q6, q7, q8, q9, q10, q11, q12, q13, q14, q15, q16, q17] at c1
      refine cskip ?_
      exact xmq (x1, n22, s22) (by simp only []; omega) (weak [0] (by decide) (hk hH rfl) (by repeat (first | exact .n | refine .c rfl (by first | rfl) ?_)) (by repeat (first | exact .n | refine .c rfl (by first | rfl) ?_)))
  rintro ⟨k, m0, q0⟩ mc4
  try simp only [] at mc4
  refine cseq ?_
  refine cblock ?_
  refine cwk (wno (t := 3) false 94 KRLSzSz rfl) ?_
  refine clk (ι := Int × Leafs × Int × Int) (.c 0 rfl (.n)) (fun | (j, l, m, q), r => (4, .c (.i .i64) (j)) :: (3, .own 1) :: r) (fun | (j, l, m, q), r => (r.set 0 (.box 120 [.c (.l KB) code, .c (.i .i64) (m), .c (.i .u64) (q)])).set 1 (.arr false 94 KRLSzSz (l))) (fun | (j, l, m, q) => j ≤ 40 ∧ 0 ≤ j ∧ n ≤ m ∧ m + 16 * j ≤ n + 644 ∧ SmL l) (fun | (j, l, m, q) => j.toNat) (k, [], m0, q0) (by refine ⟨by omega, by omega, by omega, by omega, by simp, by simp⟩) (weak [0, 1] (by decide) (hk hH rfl) (by repeat (first | exact .n | refine .c rfl (by first | rfl) ?_)) (by repeat (first | exact .n | refine .c rfl (by first | rfl) ?_))) ?_
  rintro ⟨j, l, m, q⟩ i0
  try simp only [] at i0
  refine cseq ?_
  refine cseq ?_
  refine cwk (wnorm (.c (o := .box _ _) rfl (.c (o := .arr _ _ _ _) rfl (.n))) rfl) ?_
  refine creg ?_
  refine o1 (mv rfl) ?_
  refine o1 (ibin rfl rfl rfl) ?_
  refine onil ?_
  refine xthn ?_
  refine ccond rfl (fun c2 => ?_) (fun c2 => ?_)
  · try simp only [q1, q2, q3, q4, q5, q6, q7, q8, q9, q10, q11, q12, q13, q14, q15, q16, q17] at c2
    refine cskip ?_
    refine xthn ?_
    refine cseq ?_
    refine cblock ?_
    refine cseq ?_
    refine creg ?_
    refine o1 (mv rfl) ?_
    refine o1 (mv rfl) ?_
    refine cl c_spec_l1Cur_configPath (_, _, _) [0] [] (.c rfl (.c (.e rfl)) (.n)) (by first | trivial | assumption | omega | (simp only []; omega) | (refine ?_; omega) | (constructor <;> omega) | (refine ⟨?_, ?_⟩ <;> (first | assumption | omega | (simp; omega)))) (by decide) (by decide) (.c rfl rfl (.n)) (fun | (_, _, _) => Le rfl) (.inl rfl) ?_ (.inl rfl)
    rintro ⟨n23, s23, p3⟩ hy3
    try simp only [] at hy3
    refine o1 (mv rfl) ?_
    refine cl c_spec_l1Cur_configValue (_, _, _) [0] [] (.c rfl (.c (.e rfl)) (.n)) (by first | trivial | assumption | omega | (simp only []; omega) | (refine ?_; omega) | (constructor <;> omega) | (refine ⟨?_, ?_⟩ <;> (first | assumption | omega | (simp; omega)))) (by decide) (by decide) (.c rfl rfl (.n)) (fun | (_, _, _) => Le rfl) (.inl rfl) ?_ (.inl rfl)
    rintro ⟨n24, s24, x4⟩ hy4
    try simp only [] at hy4
    rcases Bool.eq_false_or_eq_true (cfgSet l p3 x4).2 with hset | hset
    ·
      refine owk (shr (t := 17) (k := 1) rfl rfl) ?_
      refine ce c_spec_SetAt (_, _, _) [] [] (.c rfl (.c (.e rfl)) (.c rfl (.c (.e rfl)) (.c rfl (.c (.e rfl)) (.n)))) (by first | trivial | assumption | omega | (simp only []; omega) | (refine ?_; omega) | (constructor <;> omega) | (refine ⟨?_, ?_⟩ <;> (first | assumption | omega | (simp; omega)))) (by decide) (by decide) (.n) rfl (.inl rfl) ?_ (.inl rfl)
      refine owk (wnorm (.c (o := .box _ _) rfl (.c rfl (.c (o := .arr _ _ _ _) rfl (.n)))) rfl) ?_
      refine o1 (mv rfl) ?_
      refine o1 (av := .own 2) (xtr rfl rfl) ?_
      refine o1 (xtr rfl rfl) ?_
      refine o1 (asn rfl) ?_
      refine o1 (asn rfl) ?_
      refine onil ?_
      refine xthn ?_
      refine cseq ?_
      refine creg ?_
      refine o1 (mv rfl) ?_
      refine onil ?_
      refine xthn ?_
      refine ccond rfl (fun c3 => ?_) (fun c3 => ?_)
      · try simp only [q1, q2, q3, q4, q5, q6, q7, q8, q9, q10, q11, q12, q13, q14, q15, q16, q17] at c3
        refine creg ?_
        refine o1 (mv rfl) ?_
        refine o1 (asn rfl) ?_
        refine onil ?_
        refine xbn ?_
        refine xthn ?_
        refine creg ?_
        refine o1 (mv rfl) ?_
        refine o1 (isub rfl rfl (by first | omega | (simp only [List.length_cons, List.length_nil, List.length_append]; omega) | (simp; omega)) (by first | omega | (simp only [List.length_cons, List.length_nil, List.length_append]; omega) | (simp; omega))) ?_
        refine o1 (asn rfl) ?_
        refine onil ?_
        refine xlq (j - 1, (cfgSet l p3 x4).1, n24, s24) (by exact ⟨by omega, by omega, by omega, by omega, good_SmL (cfgSet_good hset)⟩) (by first | omega | (simp only []; omega)) (weak [0, 2] (by decide) (hk hH rfl) (by repeat (first | exact .n | refine .c rfl (by first | rfl) ?_)) (by repeat (first | exact .n | refine .c rfl (by first | rfl) ?_)))
      · try simp only [q1, q2, q3, q4, q5, q6, q7, q8, q9, q10, q11, q12, q13, q14, q15, q16, q17] at c3
        rw [hset] at c3; cases c3
    ·
      refine ce c_spec_SetAt_no (_, _, _) [] [1] (.c rfl (.c (.o (k := 1) (by decide) rfl)) (.c rfl (.c (.e rfl)) (.c rfl (.c (.e rfl)) (.n)))) (by first | trivial | assumption | omega | (simp only []; omega) | (refine ?_; omega) | (constructor <;> omega) | (refine ⟨?_, ?_⟩ <;> (first | assumption | omega | (simp; omega)))) (by decide) (by decide) (.n) rfl (.inr ⟨rfl, by simp [Ob.free]⟩) ?_ (.inl rfl)
      refine o1 (mv rfl) ?_
      refine o1 (xtr rfl rfl) ?_
      refine o1 (xtr rfl rfl) ?_
      refine o1 (asn rfl) ?_
      refine o1 (asn rfl) ?_
      refine onil ?_
      refine xthn ?_
      refine cseq ?_
      refine creg ?_
      refine o1 (mv rfl) ?_
      refine onil ?_
      refine xthn ?_
      refine ccond rfl (fun c4 => ?_) (fun c4 => ?_)
      · try simp only [q1, q2, q3, q4, q5, q6, q7, q8, q9, q10, q11, q12, q13, q14, q15, q16, q17] at c4
        cases c4
      · try simp only [q1, q2, q3, q4, q5, q6, q7, q8, q9, q10, q11, q12, q13, q14, q15, q16, q17] at c4
        refine cskip ?_
        refine xbn ?_
        refine xthn ?_
        refine creg ?_
        refine o1 (mv rfl) ?_
        refine o1 (isub rfl rfl (by first | omega | (simp only [List.length_cons, List.length_nil, List.length_append]; omega) | (simp; omega)) (by first | omega | (simp only [List.length_cons, List.length_nil, List.length_append]; omega) | (simp; omega))) ?_
        refine o1 (asn rfl) ?_
        refine onil ?_
        refine xlq (j - 1, l, n24, s24) (by exact ⟨by omega, by omega, by omega, by omega, i0.2.2.2.2⟩) (by first | omega | (simp only []; omega)) (weak [0, 1] (by decide) (hk hH rfl) (by repeat (first | exact .n | refine .c rfl (by first | rfl) ?_)) (by repeat (first | exact .n | refine .c rfl (by first | rfl) ?_)))
  · try simp only [q1, q2, q3, q4, q5, q6, q7, q8, q9, q10, q11, q12, q13, q14, q15, q16, q17] at c2
    have sl := i0.2.2.2.2.1
    refine cexit ?_
    refine xthe ?_
    refine xle ?_
    refine xbh ?_
    refine xthn ?_
    refine cseq ?_
    refine cseq ?_
    refine creg ?_
    refine o1 (mv rfl) ?_
    refine ofacto (k := 1) rfl fun hl1 => ?_
    refine o1 (leno rfl rfl li26) ?_
    refine o1 (ibin rfl rfl rfl) ?_
    refine o1 (mv rfl) ?_
    refine ocase (t := 30) rfl (fun c5 => ?_) (fun c5 => ?_)
    · try simp only [q1, q2, q3, q4, q5, q6, q7, q8, q9, q10, q11, q12, q13, q14, q15, q16, q17] at c5
      refine og (mv rfl) ?_
      refine cl c_spec_l1Cur_one (_, _, _, _) [0] [] (.c rfl (.c (.e rfl)) (.c rfl (.c (.e rfl)) (.n))) (by first | trivial | assumption | omega | (simp only []; omega) | (refine ?_; omega) | (constructor <;> omega) | (refine ⟨?_, ?_⟩ <;> (first | assumption | omega | (simp; omega)))) (by decide) (by decide) (.c rfl rfl (.n)) (fun | (_, _, _) => Le rfl) (.inl rfl) ?_ (wgd rfl rfl rfl)
      rintro ⟨n25, s25, x5⟩ hy5
      try simp only [] at hy5
      refine o1 (pickT rfl rfl) ?_
      refine onil ?_
      refine xthn ?_
      refine ccond rfl (fun c6 => ?_) (fun c6 => ?_)
      · try simp only [q1, q2, q3, q4, q5, q6, q7, q8, q9, q10, q11, q12, q13, q14, q15, q16, q17] at c6
        refine cseq ?_
        refine creg ?_
        refine o1 (mv rfl) ?_
        refine o1 (mv rfl) ?_
        refine ofacto (k := 1) rfl fun hl2 => ?_
        refine o1 (leno rfl rfl li26) ?_
        refine cl c_spec_l1Cur_pick (_, _, _, _) [0] [] (.c rfl (.c (.e rfl)) (.c rfl (.c (.e rfl)) (.n))) (by first | trivial | assumption | omega | (simp only []; omega) | (refine ?_; omega) | (constructor <;> omega) | (refine ⟨?_, ?_⟩ <;> (first | assumption | omega | (simp; omega)))) (by decide) (by decide) (.c rfl rfl (.n)) (fun | (_, _, _) => Le rfl) (.inl rfl) ?_ (.inl rfl)
        rintro ⟨n26, s26, x6⟩ hy6
        try simp only [] at hy6
        refine o1 (asn rfl) ?_
        refine onil ?_
        refine xthn ?_
        refine cseq ?_
        refine creg ?_
        refine o1 (mv rfl) ?_
        refine cl c_spec_l1Cur_one (_, _, _, _) [0] [] (.c rfl (.c (.e rfl)) (.c rfl (.c (.e rfl)) (.n))) (by first | trivial | assumption | omega | (simp only []; omega) | (refine ?_; omega) | (constructor <;> omega) | (refine ⟨?_, ?_⟩ <;> (first | assumption | omega | (simp; omega)))) (by decide) (by decide) (.c rfl rfl (.n)) (fun | (_, _, _) => Le rfl) (.inl rfl) ?_ (.inl rfl)
        rintro ⟨n27, s27, x7⟩ hy7
        try simp only [] at hy7
        refine onil ?_
        refine xthn ?_
        refine ccond rfl (fun c7 => ?_) (fun c7 => ?_)
        · try simp only [q1, q2, q3, q4, q5, q6, q7, q8, q9, q10, q11, q12, q13, q14, q15, q16, q17] at c7
          refine creg ?_
          refine o1 (mv rfl) ?_
          refine o1 (mv rfl) ?_
          refine o1 (mv rfl) ?_
          refine cl c_spec_l1Cur_configValue (_, _, _) [0] [] (.c rfl (.c (.e rfl)) (.n)) (by first | trivial | assumption | omega | (simp only []; omega) | (refine ?_; omega) | (constructor <;> omega) | (refine ⟨?_, ?_⟩ <;> (first | assumption | omega | (simp; omega)))) (by decide) (by decide) (.c rfl rfl (.n)) (fun | (_, _, _) => Le rfl) (.inl rfl) ?_ (.inl rfl)
          rintro ⟨n28, s28, x8⟩ hy8
          try simp only [] at hy8
          refine owk (wnorm (.c (o := .box _ _) rfl (.c (o := .arr _ _ _ _) rfl (.n))) rfl) ?_
          refine o1 (ixo rfl rfl rfl li26 rfl (by first | omega | (simp only [List.length_cons, List.length_nil, List.length_append]; omega) | (simp; omega)) (by first | omega | (simp only [List.length_cons, List.length_nil, List.length_append]; omega) | (simp; omega))) ?_
          refine o1 (fae rfl fi94_1) ?_
          refine e0 (sste1 rfl rfl (by first | omega | (simp only [List.length_cons, List.length_nil, List.length_append]; omega) | (simp; omega)) rfl (.s (.z)) ti9) ?_
          refine onil ?_
          refine xthn ?_
          refine cseq ?_
          refine creg ?_
          refine o1 (mv rfl) ?_
          refine o1 (asn rfl) ?_
          refine onil ?_
          refine xthn ?_
          refine cret ?_
          refine rety2 (_, _, _) (retg (bs := [.own 1]) (ob' := [.box 120 [.c (.l KB) code, .c (.i .i64) (_), .c (.i .u64) (_)], .arr false 94 KRLSzSz _]) [0, 1] rfl (.t rfl (.n)) (by decide) (hk hH rfl) (.c rfl rfl (.c rfl rfl (.n))) (lc rfl rfl) rfl) ?_
          try simp only []
          exact ⟨by omega, by omega, SmL_set i0.2.2.2.2 ⟨(i0.2.2.2.2.2 _ (ix_mem (z := KRLSzSz.z) (i := x6.toNat) (by omega))).1, hy8.2.2⟩⟩
        · try simp only [q1, q2, q3, q4, q5, q6, q7, q8, q9, q10, q11, q12, q13, q14, q15, q16, q17] at c7
          refine creg ?_
          refine o1 (mv rfl) ?_
          refine o1 (mv rfl) ?_
          refine o1 (mv rfl) ?_
          refine cl c_spec_l1Cur_configPath (_, _, _) [0] [] (.c rfl (.c (.e rfl)) (.n)) (by first | trivial | assumption | omega | (simp only []; omega) | (refine ?_; omega) | (constructor <;> omega) | (refine ⟨?_, ?_⟩ <;> (first | assumption | omega | (simp; omega)))) (by decide) (by decide) (.c rfl rfl (.n)) (fun | (_, _, _) => Le rfl) (.inl rfl) ?_ (.inl rfl)
          rintro ⟨n29, s29, p9⟩ hy9
          try simp only [] at hy9
          refine owk (wnorm (.c (o := .box _ _) rfl (.c (o := .arr _ _ _ _) rfl (.n))) rfl) ?_
          refine o1 (ixo rfl rfl rfl li26 rfl (by first | omega | (simp only [List.length_cons, List.length_nil, List.length_append]; omega) | (simp; omega)) (by first | omega | (simp only [List.length_cons, List.length_nil, List.length_append]; omega) | (simp; omega))) ?_
          refine o1 (fae rfl fi94_0) ?_
          refine e0 (sste1 rfl rfl (by first | omega | (simp only [List.length_cons, List.length_nil, List.length_append]; omega) | (simp; omega)) rfl (.z) ti40) ?_
          refine onil ?_
          refine xthn ?_
          refine cseq ?_
          refine creg ?_
          refine o1 (mv rfl) ?_
          refine o1 (asn rfl) ?_
          refine onil ?_
          refine xthn ?_
          refine cret ?_
          refine rety2 (_, _, _) (retg (bs := [.own 1]) (ob' := [.box 120 [.c (.l KB) code, .c (.i .i64) (_), .c (.i .u64) (_)], .arr false 94 KRLSzSz _]) [0, 1] rfl (.t rfl (.n)) (by decide) (hk hH rfl) (.c rfl rfl (.c rfl rfl (.n))) (lc rfl rfl) rfl) ?_
          try simp only []
          exact ⟨by omega, by omega, SmL_set i0.2.2.2.2 ⟨hy9.2.2, (i0.2.2.2.2.2 _ (ix_mem (z := KRLSzSz.z) (i := x6.toNat) (by omega))).2⟩⟩
      · try simp only [q1, q2, q3, q4, q5, q6, q7, q8, q9, q10, q11, q12, q13, q14, q15, q16, q17] at c6
        refine cskip ?_
        refine xthn ?_
        refine cseq ?_
        refine creg ?_
        refine o1 (mv rfl) ?_
        refine o1 (asn rfl) ?_
        refine onil ?_
        refine xthn ?_
        refine cret ?_
        refine rety2 (_, _, _) (retg (bs := [.own 1]) (ob' := [.box 120 [.c (.l KB) code, .c (.i .i64) (_), .c (.i .u64) (_)], .arr false 94 KRLSzSz _]) [0, 1] rfl (.t rfl (.n)) (by decide) (hk hH rfl) (.c rfl rfl (.c rfl rfl (.n))) (lc rfl rfl) rfl) ?_
        try simp only []
        exact ⟨by omega, by omega, i0.2.2.2.2⟩
    · try simp only [q1, q2, q3, q4, q5, q6, q7, q8, q9, q10, q11, q12, q13, q14, q15, q16, q17] at c5
      refine os rfl ?_
      refine os rfl ?_
      refine o1 (pickF rfl rfl) ?_
      refine onil ?_
      refine xthn ?_
      refine ccF rfl ?_
      refine cskip ?_
      refine xthn ?_
      refine cseq ?_
      refine creg ?_
      refine o1 (mv rfl) ?_
      refine o1 (asn rfl) ?_
      refine onil ?_
      refine xthn ?_
      refine cret ?_
      refine rety2 (_, _, _) (retg (bs := [.own 1]) (ob' := [.box 120 [.c (.l KB) code, .c (.i .i64) (_), .c (.i .u64) (_)], .arr false 94 KRLSzSz _]) [0, 1] rfl (.t rfl (.n)) (by decide) (hk hH rfl) (.c rfl rfl (.c rfl rfl (.n))) (lc rfl rfl) rfl) ?_
      try simp only []
      exact ⟨by omega, by omega, i0.2.2.2.2⟩

end Go.Proofs.YtifpekpmnlcmoaaE
