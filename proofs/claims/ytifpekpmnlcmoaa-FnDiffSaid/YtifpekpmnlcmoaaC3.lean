import Derived.Test.YtifpekpmnlcmoaaProg
import Derived.Test.YtifpekpmnlcmoaaE33
import Derived.Test.YtifpekpmnlcmoaaC2
set_option linter.unusedVariables false
set_option linter.unusedSimpArgs false
set_option maxRecDepth 100000
namespace Go.Proofs.YtifpekpmnlcmoaaE
open Go Go.RowKit Go.Shelf Go.Proofs
theorem pi120 : binfo Go.Proofs.Try.prog 120 = some [(0, 1), (1, 1), (2, 1)] := by kernel_rfl
theorem zi120 : zinfo Go.Proofs.Try.prog 120 = some [.nl, .c (.i .i64) 0, .c (.i .u64) 0] := by kernel_rfl

/-- Commands of a bounded size. -/
def SmC (c : List KROLSzSz.den) : Prop := c.length ≤ 80 ∧ ∀ x ∈ c, SmP x.2.1 ∧ x.2.2.1.length ≤ 9
theorem diff_SmC {a b : Leafs} (ha : SmL a) (hb : SmL b) : SmC (delS b a ++ setS a b) := by
  refine ⟨?_, fun x hx => ?_⟩
  · have h1 := delS_len (b := b) (l := a)
    have h2 := setS_len (b := a) (l := b)
    rw [List.length_append]
    have := ha.1; have := hb.1; omega
  · rcases List.mem_append.1 hx with hx | hx
    · obtain ⟨y, hy, rfl⟩ := List.mem_map.1 hx
      exact ⟨(ha.2 y (List.mem_filter.1 hy).1).1, by simp⟩
    · obtain ⟨y, hy, rfl⟩ := List.mem_map.1 hx
      exact hb.2 y (List.mem_filter.1 hy).1

theorem c_spec_l1Cur_command : Fr Go.Proofs.Try.prog 84 (ι := List KB.den × Int × Int) (κ := Int × Int × Bool × StrS × List UInt8) (fun | (code, n, s) => [.bp 0 0]) (fun | (code, n, s) => [.box 120 [.c (.l KB) code, .c (.i .i64) (n), .c (.i .u64) (s)]]) (fun | (code, n, s) => 0 ≤ n ∧ n ≤ 4611686018427387904 - 20 ∧ code.length ≤ 4611686018427387904) (fun | (code, n, s), (n2, s2, b, p, v) => n ≤ n2 ∧ n2 ≤ n + 20 ∧ SmP p ∧ v.length ≤ 9) (fun | (code, n, s), (n2, s2, b, p, v) => (.agg [.c .b b, .c (.l KS) p, .c .s v], [.box 120 [.c (.l KB) code, .c (.i .i64) (n2), .c (.i .u64) (s2)]])) := by
  refine fnEr (n := 19) Go.Proofs.Try.func84 rfl rfl (ent Go.Proofs.Try.func84 (by kernel_rfl) rfl) ?_
  rintro ⟨code, n, s⟩ hx
  refine ⟨Le rfl, fun w0 S0 H Z hH => ?_⟩
  try simp only [] at hx
  refine cseq ?_
  refine creg ?_
  refine e1 (av := .bp 1 0) (salloc zi42) ?_
  refine onil ?_
  refine xthn ?_
  refine cseq ?_
  refine creg ?_
  refine o1 (mv rfl) ?_
  refine cl c_spec_l1Cur_one (_, _, _, _) [0] [] (.c rfl (.c (.e rfl)) (.c rfl (.c (.e rfl)) (.n))) (by first | trivial | assumption | omega | (simp only []; omega) | (refine ?_; omega) | (constructor <;> omega) | (refine ⟨?_, ?_⟩ <;> (first | assumption | omega | (simp; omega)))) (by decide) (by decide) (.c rfl rfl (.n)) (fun | (_, _, _) => Le rfl) (.inl rfl) ?_ (.inl rfl)
  rintro ⟨n21, s21, x1⟩ hy1
  try simp only [] at hy1
  refine o1 (mv rfl) ?_
  refine cl c_spec_l1Cur_configPath (_, _, _) [0] [] (.c rfl (.c (.e rfl)) (.n)) (by first | trivial | assumption | omega | (simp only []; omega) | (refine ?_; omega) | (constructor <;> omega) | (refine ⟨?_, ?_⟩ <;> (first | assumption | omega | (simp; omega)))) (by decide) (by decide) (.c rfl rfl (.n)) (fun | (_, _, _) => Le rfl) (.inl rfl) ?_ (.inl rfl)
  rintro ⟨n22, s22, p2⟩ hy2
  try simp only [] at hy2
  refine o1 (bld pi42 zi42 (.c rfl rfl (.c rfl rfl .n)) rfl) ?_
  refine e1 (av := .bp 2 0) (salloc zi42) ?_
  refine owk (wnorm (.c (o := .box _ _) rfl (.c (o := .box _ _) rfl (.c (o := .box _ _) rfl (.n)))) rfl) ?_
  refine e0 (sstn rfl rfl rfl rfl (Le rfl) ti42) ?_
  refine onil ?_
  refine xthn ?_
  refine cseq ?_
  refine cseq ?_
  refine creg ?_
  refine o1 (fab rfl fi42_0) ?_
  refine o1 (ldb rfl rfl rfl ti4) ?_
  refine o1 (mv rfl) ?_
  refine ocase (t := 11) rfl (fun c1 => ?_) (fun c1 => ?_)
  · try simp only [q1, q2, q3, q4, q5, q6, q7, q8, q9, q10, q11, q12, q13, q14, q15, q16, q17] at c1
    refine os rfl ?_
    refine os rfl ?_
    refine o1 (pickT rfl rfl) ?_
    refine onil ?_
    refine xthn ?_
    refine ccT rfl ?_
    refine creg ?_
    refine o1 (mv rfl) ?_
    refine cl c_spec_l1Cur_configValue (_, _, _) [0] [] (.c rfl (.c (.e rfl)) (.n)) (by first | trivial | assumption | omega | (simp only []; omega) | (refine ?_; omega) | (constructor <;> omega) | (refine ⟨?_, ?_⟩ <;> (first | assumption | omega | (simp; omega)))) (by decide) (by decide) (.c rfl rfl (.n)) (fun | (_, _, _) => Le rfl) (.inl rfl) ?_ (.inl rfl)
    rintro ⟨n23, s23, x3⟩ hy3
    try simp only [] at hy3
    refine o1 (fab rfl fi42_2) ?_
    refine e0 (sst rfl rfl rfl rfl (Le rfl) ti9) ?_
    refine onil ?_
    refine xthn ?_
    refine cseq ?_
    refine creg ?_
    refine o1 (ldbn rfl rfl ti42 (Le rfl)) ?_
    refine e0 (sstn rfl rfl rfl rfl (Le rfl) ti42) ?_
    refine owk (wnorm (.c (o := .box _ _) rfl (.c (o := .box _ _) rfl (.c (o := .box _ _) rfl (.n)))) rfl) ?_
    refine onil ?_
    refine xthn ?_
    refine cret ?_
    refine rety2 (_, _, _, _, _) (retg (bs := [.agg [.c .b _, .c (.l KS) _, .c .s _]]) (ob' := [.box 120 [.c (.l KB) code, .c (.i .i64) (_), .c (.i .u64) (_)]]) [0] rfl (.g rfl rfl (Le rfl) ti42 (.n)) (by decide) (hk hH rfl) (.c rfl rfl (.n)) (lc rfl rfl) rfl) ?_
    try simp only []
    first | exact ⟨by omega, by omega, hy2.2.2, hy3.2.2⟩ | exact ⟨by omega, by omega, hy2.2.2, hy5.2.2⟩ | exact ⟨by omega, by omega, hy2.2.2, Nat.zero_le 9⟩
  · try simp only [q1, q2, q3, q4, q5, q6, q7, q8, q9, q10, q11, q12, q13, q14, q15, q16, q17] at c1
    refine og (mv rfl) ?_
    refine cl c_spec_l1Cur_one (_, _, _, _) [0] [] (.c rfl (.c (.e rfl)) (.c rfl (.c (.e rfl)) (.n))) (by first | trivial | assumption | omega | (simp only []; omega) | (refine ?_; omega) | (constructor <;> omega) | (refine ⟨?_, ?_⟩ <;> (first | assumption | omega | (simp; omega)))) (by decide) (by decide) (.c rfl rfl (.n)) (fun | (_, _, _) => Le rfl) (.inl rfl) ?_ (wgd rfl rfl rfl)
    rintro ⟨n24, s24, x4⟩ hy4
    try simp only [] at hy4
    refine o1 (pickF rfl rfl) ?_
    refine onil ?_
    refine xthn ?_
    refine ccond rfl (fun c2 => ?_) (fun c2 => ?_)
    · try simp only [q1, q2, q3, q4, q5, q6, q7, q8, q9, q10, q11, q12, q13, q14, q15, q16, q17] at c2
      refine creg ?_
      refine o1 (mv rfl) ?_
      refine cl c_spec_l1Cur_configValue (_, _, _) [0] [] (.c rfl (.c (.e rfl)) (.n)) (by first | trivial | assumption | omega | (simp only []; omega) | (refine ?_; omega) | (constructor <;> omega) | (refine ⟨?_, ?_⟩ <;> (first | assumption | omega | (simp; omega)))) (by decide) (by decide) (.c rfl rfl (.n)) (fun | (_, _, _) => Le rfl) (.inl rfl) ?_ (.inl rfl)
      rintro ⟨n25, s25, x5⟩ hy5
      try simp only [] at hy5
      refine o1 (fab rfl fi42_2) ?_
      refine e0 (sst rfl rfl rfl rfl (Le rfl) ti9) ?_
      refine owk (wnorm (.c (o := .box _ _) rfl (.c (o := .box _ _) rfl (.c (o := .box _ _) rfl (.n)))) rfl) ?_
      refine onil ?_
      refine xthn ?_
      refine cseq ?_
      refine creg ?_
      refine o1 (ldbn rfl rfl ti42 (Le rfl)) ?_
      refine e0 (sstn rfl rfl rfl rfl (Le rfl) ti42) ?_
      refine onil ?_
      refine xthn ?_
      refine cret ?_
      refine rety2 (_, _, _, _, _) (retg (bs := [.agg [.c .b _, .c (.l KS) _, .c .s _]]) (ob' := [.box 120 [.c (.l KB) code, .c (.i .i64) (_), .c (.i .u64) (_)]]) [0] rfl (.g rfl rfl (Le rfl) ti42 (.n)) (by decide) (hk hH rfl) (.c rfl rfl (.n)) (lc rfl rfl) rfl) ?_
      try simp only []
      first | exact ⟨by omega, by omega, hy2.2.2, hy3.2.2⟩ | exact ⟨by omega, by omega, hy2.2.2, hy5.2.2⟩ | exact ⟨by omega, by omega, hy2.2.2, Nat.zero_le 9⟩
    · try simp only [q1, q2, q3, q4, q5, q6, q7, q8, q9, q10, q11, q12, q13, q14, q15, q16, q17] at c2
      refine cskip ?_
      refine xthn ?_
      refine cseq ?_
      refine creg ?_
      refine o1 (ldbn rfl rfl ti42 (Le rfl)) ?_
      refine e0 (sstn rfl rfl rfl rfl (Le rfl) ti42) ?_
      refine onil ?_
      refine xthn ?_
      refine cret ?_
      refine xwk (wnorm (.c (o := .box _ _) rfl (.c (o := .box _ _) rfl (.c (o := .box _ _) rfl (.n)))) rfl) ?_
      refine rety2 (_, _, _, _, _) (retg (bs := [.agg [.c .b _, .c (.l KS) _, .c .s _]]) (ob' := [.box 120 [.c (.l KB) code, .c (.i .i64) (_), .c (.i .u64) (_)]]) [0] rfl (.g rfl rfl (Le rfl) ti42 (.n)) (by decide) (hk hH rfl) (.c rfl rfl (.n)) (lc rfl rfl) rfl) ?_
      try simp only []
      first | exact ⟨by omega, by omega, hy2.2.2, hy3.2.2⟩ | exact ⟨by omega, by omega, hy2.2.2, hy5.2.2⟩ | exact ⟨by omega, by omega, hy2.2.2, Nat.zero_le 9⟩

theorem c_spec_DrawCommandText : Fr Go.Proofs.Try.prog 26 (ι := List KB.den) (κ := Bool × StrS × List UInt8) (fun code => [.c (.l KB) code]) (fun code => []) (fun code => code.length ≤ 4611686018427387904) (fun | code, (b, p, v) => SmP p ∧ v.length ≤ 9) (fun | code, (b, p, v) => (.agg [.c .b b, .c (.l KS) p, .c .s v], [])) := by
  refine fnEr (n := 9) Go.Proofs.Try.func26 rfl rfl (ent Go.Proofs.Try.func26 (by kernel_rfl) rfl) ?_
  rintro code hx
  refine ⟨Le rfl, fun w0 S0 H Z hH => ?_⟩
  try simp only [] at hx
  refine cseq ?_
  refine creg ?_
  refine e1 (av := .bp 0 0) (salloc zi42) ?_
  refine onil ?_
  refine xthn ?_
  refine cseq ?_
  refine creg ?_
  refine o1 (mv rfl) ?_
  refine o1 (bld pi120 zi120 (.c rfl rfl .n) rfl) ?_
  refine e1 (av := .bp 1 0) (sboxn rfl rfl) ?_
  refine o1 (asn rfl) ?_
  refine onil ?_
  refine xthn ?_
  refine cseq ?_
  refine creg ?_
  refine o1 (mv rfl) ?_
  refine cl c_spec_l1Cur_command (_, _, _) [1] [] (.c rfl (.c (.e rfl)) (.n)) (by first | trivial | assumption | omega | (simp only []; omega) | (refine ?_; omega) | (constructor <;> omega) | (refine ⟨?_, ?_⟩ <;> (first | assumption | omega | (simp; omega)))) (by decide) (by decide) (.c rfl rfl (.n)) (fun | (_, _, _, _, _) => Le rfl) (.inl rfl) ?_ (.inl rfl)
  rintro ⟨n21, s21, b1, p1, v1⟩ hy1
  try simp only [] at hy1
  refine e0 (sstn rfl rfl rfl rfl (Le rfl) ti42) ?_
  refine owk (wnorm (.c (o := .box _ _) rfl (.c (o := .box _ _) rfl (.n))) rfl) ?_
  refine onil ?_
  refine xthn ?_
  refine cret ?_
  refine rety2 (_, _, _) (retg (bs := [.agg [.c .b _, .c (.l KS) _, .c .s _]]) (ob' := []) [] rfl (.g rfl rfl (Le rfl) ti42 (.n)) (by decide) (hk hH rfl) (.n) (lc rfl rfl) rfl) ?_
  try simp only []
  exact hy1.2.2

theorem c_spec_DrawDiffOf : Fr Go.Proofs.Try.prog 18 (ι := List KB.den) (κ := Leafs × Leafs) (fun code => [.c (.l KB) code]) (fun code => []) (fun code => code.length ≤ 4611686018427387904) (fun | code, (a, b) => SmL a ∧ SmL b) (fun | code, (a, b) => (.tup [.c (.l KRLSzSz) a, .c (.l KRLSzSz) b], [])) := by
  refine fnEr (n := 39) Go.Proofs.Try.func18 rfl rfl (ent Go.Proofs.Try.func18 (by kernel_rfl) rfl) ?_
  rintro code hx
  refine ⟨Le rfl, fun w0 S0 H Z hH => ?_⟩
  try simp only [] at hx
  refine cseq ?_
  refine creg ?_
  refine o1 (asn rfl) ?_
  refine o1 (asn rfl) ?_
  refine onil ?_
  refine xthn ?_
  refine cseq ?_
  refine creg ?_
  refine o1 (mv rfl) ?_
  refine o1 (bld pi120 zi120 (.c rfl rfl .n) rfl) ?_
  refine e1 (av := .bp 0 0) (sboxn rfl rfl) ?_
  refine o1 (asn rfl) ?_
  refine onil ?_
  refine xthn ?_
  refine cseq ?_
  refine creg ?_
  refine o1 (mv rfl) ?_
  refine cl c_spec_l1Cur_config (_, _, _) [0] [] (.c rfl (.c (.e rfl)) (.n)) (by first | trivial | assumption | omega | (simp only []; omega) | (refine ?_; omega) | (constructor <;> omega) | (refine ⟨?_, ?_⟩ <;> (first | assumption | omega | (simp; omega)))) (by decide) (by decide) (.c rfl rfl (.n)) (fun | (_, _, _) => Le rfl) (.inl rfl) ?_ (.inl rfl)
  rintro ⟨n21, s21, l1⟩ hy1
  try simp only [] at hy1
  refine owk (wsl (t := 14) (.own 1) rfl rfl) ?_
  refine o1 (asn rfl) ?_
  refine onil ?_
  refine xthn ?_
  refine cseq ?_
  refine cwk (shr (t := 5) (k := 1) rfl rfl) ?_
  refine creg ?_
  refine o1 (mv rfl) ?_
  refine o1 (asn rfl) ?_
  refine onil ?_
  refine xthn ?_
  refine cseq ?_
  refine cseq ?_
  refine creg ?_
  refine o1 (mv rfl) ?_
  refine cl c_spec_l1Cur_pick (_, _, _, _) [0] [] (.c rfl (.c (.e rfl)) (.c rfl (.c (.e rfl)) (.n))) (by first | trivial | assumption | omega | (simp only []; omega) | (refine ?_; omega) | (constructor <;> omega) | (refine ⟨?_, ?_⟩ <;> (first | assumption | omega | (simp; omega)))) (by decide) (by decide) (.c rfl rfl (.n)) (fun | (_, _, _) => Le rfl) (.inl rfl) ?_ (.inl rfl)
  rintro ⟨n22, s22, x2⟩ hy2
  try simp only [] at hy2
  refine owk (wnorm (.c (o := .box _ _) rfl (.c rfl (.n))) rfl) ?_
  refine o1 (asn rfl) ?_
  refine onil ?_
  refine xthn ?_
  refine cblock ?_
  refine clk (ι := Int × Leafs × Int × Int) (.c 4 rfl (.c 5 rfl (.n))) (fun | (j, l, m, q), r => (7, .c (.i .i64) (j)) :: (6, .c (.l KRLSzSz) (l)) :: r) (fun | (j, l, m, q), r => r.set 0 (.box 120 [.c (.l KB) code, .c (.i .i64) (m), .c (.i .u64) (q)])) (fun | (j, l, m, q) => j ≤ 3 ∧ 0 ≤ j ∧ 0 ≤ m ∧ m + 16 * j ≤ 800 ∧ SmL l) (fun | (j, l, m, q) => j.toNat) (x2, l1, n22, s22) (by exact ⟨by omega, by omega, by omega, by omega, hy1.2.2⟩) (weak [0, 1] (by decide) (hk hH rfl) (by repeat (first | exact .n | refine .c rfl (by first | rfl) ?_)) (by repeat (first | exact .n | refine .c rfl (by first | rfl) ?_))) ?_
  rintro ⟨j, l, m, q⟩ i0
  try simp only [] at i0
  refine cseq ?_
  refine cseq ?_
  refine creg ?_
  refine o1 (mv rfl) ?_
  refine o1 (ibin rfl rfl rfl) ?_
  refine onil ?_
  refine xthn ?_
  refine ccond rfl (fun c1 => ?_) (fun c1 => ?_)
  · try simp only [q1, q2, q3, q4, q5, q6, q7, q8, q9, q10, q11, q12, q13, q14, q15, q16, q17] at c1
    refine cskip ?_
    refine xthn ?_
    refine cseq ?_
    refine cblock ?_
    refine cseq ?_
    refine creg ?_
    refine o1 (mv rfl) ?_
    refine o1 (mv rfl) ?_
    refine cl c_spec_l1Cur_configPath (_, _, _) [0] [] (.c rfl (.c (.e rfl)) (.n)) (by first | trivial | assumption | omega | (simp only []; omega) | (refine ?_; omega) | (constructor <;> omega) | (refine ⟨?_, ?_⟩ <;> (first | assumption | omega | (simp; omega)))) (by decide) (by decide) (.c rfl rfl (.n)) (fun | (_, _, _) => Le rfl) (.inl rfl) ?_ (.inl rfl)
    rintro ⟨n23, s23, p3⟩ hy3
    try simp only [] at hy3
    refine o1 (mv rfl) ?_
    refine cl c_spec_l1Cur_configValue (_, _, _) [0] [] (.c rfl (.c (.e rfl)) (.n)) (by first | trivial | assumption | omega | (simp only []; omega) | (refine ?_; omega) | (constructor <;> omega) | (refine ⟨?_, ?_⟩ <;> (first | assumption | omega | (simp; omega)))) (by decide) (by decide) (.c rfl rfl (.n)) (fun | (_, _, _) => Le rfl) (.inl rfl) ?_ (.inl rfl)
    rintro ⟨n24, s24, x4⟩ hy4
    try simp only [] at hy4
    refine ce c_spec_SetAt (_, _, _) [] [] (.c rfl (.c (.e rfl)) (.c rfl (.c (.e rfl)) (.c rfl (.c (.e rfl)) (.n)))) (by first | trivial | assumption | omega | (simp only []; omega) | (refine ?_; omega) | (constructor <;> omega) | (refine ⟨?_, ?_⟩ <;> (first | assumption | omega | (simp; omega)))) (by decide) (by decide) (.n) rfl (.inl rfl) ?_ (.inl rfl)
    refine owk (wnorm (.c (o := .box _ _) rfl (.c rfl (.c (o := .arr _ _ _ _) rfl (.n)))) rfl) ?_
    refine o1 (mv rfl) ?_
    refine o1 (av := .own 2) (xtr rfl rfl) ?_
    refine o1 (xtr rfl rfl) ?_
    refine o1 (asn rfl) ?_
    refine o1 (asn rfl) ?_
    refine onil ?_
    refine xthn ?_
    refine cseq ?_
    refine creg ?_
    refine o1 (mv rfl) ?_
    refine onil ?_
    refine xthn ?_
    refine ccond rfl (fun c2 => ?_) (fun c2 => ?_)
    · try simp only [q1, q2, q3, q4, q5, q6, q7, q8, q9, q10, q11, q12, q13, q14, q15, q16, q17] at c2
      refine creg ?_
      refine o1 (mv rfl) ?_
      refine o1 (asn rfl) ?_
      refine onil ?_
      refine xbn ?_
      refine xthn ?_
      refine creg ?_
      refine o1 (mv rfl) ?_
      refine o1 (isub rfl rfl (by first | omega | (simp only [List.length_cons, List.length_nil, List.length_append]; omega) | (simp; omega)) (by first | omega | (simp only [List.length_cons, List.length_nil, List.length_append]; omega) | (simp; omega))) ?_
      refine o1 (asn rfl) ?_
      refine onil ?_
      refine xwk (shr (t := 6) (k := 2) rfl rfl) ?_
      refine xlq (j - 1, (cfgSet l p3 x4).1, n24, s24) (by exact ⟨by omega, by omega, by omega, by omega, good_SmL (cfgSet_good c2)⟩) (by first | omega | (simp only []; omega)) (weak [0, 1] (by decide) (hk hH rfl) (by repeat (first | exact .n | refine .c rfl (by first | rfl) ?_)) (by repeat (first | exact .n | refine .c rfl (by first | rfl) ?_)))
    · try simp only [q1, q2, q3, q4, q5, q6, q7, q8, q9, q10, q11, q12, q13, q14, q15, q16, q17] at c2
      refine cskip ?_
      refine xbn ?_
      refine xthn ?_
      refine creg ?_
      refine o1 (mv rfl) ?_
      refine o1 (isub rfl rfl (by first | omega | (simp only [List.length_cons, List.length_nil, List.length_append]; omega) | (simp; omega)) (by first | omega | (simp only [List.length_cons, List.length_nil, List.length_append]; omega) | (simp; omega))) ?_
      refine o1 (asn rfl) ?_
      refine onil ?_
      refine xlq (j - 1, l, n24, s24) (by exact ⟨by omega, by omega, by omega, by omega, i0.2.2.2.2⟩) (by first | omega | (simp only []; omega)) (weak [0, 1] (by decide) (hk hH rfl) (by repeat (first | exact .n | refine .c rfl (by first | rfl) ?_)) (by repeat (first | exact .n | refine .c rfl (by first | rfl) ?_)))
  · try simp only [q1, q2, q3, q4, q5, q6, q7, q8, q9, q10, q11, q12, q13, q14, q15, q16, q17] at c1
    refine cexit ?_
    refine xthe ?_
    refine xle ?_
    refine xbh ?_
    refine xthn ?_
    refine cseq ?_
    refine cseq ?_
    refine creg ?_
    refine o1 (mv rfl) ?_
    refine cl c_spec_l1Cur_one (_, _, _, _) [0] [] (.c rfl (.c (.e rfl)) (.c rfl (.c (.e rfl)) (.n))) (by first | trivial | assumption | omega | (simp only []; omega) | (refine ?_; omega) | (constructor <;> omega) | (refine ⟨?_, ?_⟩ <;> (first | assumption | omega | (simp; omega)))) (by decide) (by decide) (.c rfl rfl (.n)) (fun | (_, _, _) => Le rfl) (.inl rfl) ?_ (.inl rfl)
    rintro ⟨n25, s25, x5⟩ hy5
    try simp only [] at hy5
    refine onil ?_
    refine xthn ?_
    refine ccond rfl (fun c3 => ?_) (fun c3 => ?_)
    · try simp only [q1, q2, q3, q4, q5, q6, q7, q8, q9, q10, q11, q12, q13, q14, q15, q16, q17] at c3
      refine creg ?_
      refine o1 (mv rfl) ?_
      refine cl c_spec_l1Cur_config (_, _, _) [0] [] (.c rfl (.c (.e rfl)) (.n)) (by first | trivial | assumption | omega | (simp only []; omega) | (refine ?_; omega) | (constructor <;> omega) | (refine ⟨?_, ?_⟩ <;> (first | assumption | omega | (simp; omega)))) (by decide) (by decide) (.c rfl rfl (.n)) (fun | (_, _, _) => Le rfl) (.inl rfl) ?_ (.inl rfl)
      rintro ⟨n26, s26, l6⟩ hy6
      try simp only [] at hy6
      refine owk (wsl (t := 36) (.own 2) rfl rfl) ?_
      refine o1 (asn rfl) ?_
      refine onil ?_
      refine xthn ?_
      refine cseq ?_
      refine creg ?_
      refine o1 (mv rfl) ?_
      refine o1 (mv rfl) ?_
      refine o1 (asn rfl) ?_
      refine o1 (asn rfl) ?_
      refine onil ?_
      refine xthn ?_
      refine cret ?_
      refine xwk (wnorm (.c (o := .box _ _) rfl (.c rfl (.c (o := .arr _ _ _ _) rfl (.n)))) rfl) ?_
      refine xwk (shr (t := 3) (k := 2) rfl rfl) ?_
      refine rety2 (_, _) (retg (bs := [.c (.l KRLSzSz) _, .c (.l KRLSzSz) _]) (ob' := []) [] rfl (.t rfl (.t rfl (.n))) (by decide) (hk hH rfl) (.n) (lc rfl (lc rfl rfl)) rfl) ?_
      try simp only []
      exact ⟨hy1.2.2, hy6.2.2⟩
    · try simp only [q1, q2, q3, q4, q5, q6, q7, q8, q9, q10, q11, q12, q13, q14, q15, q16, q17] at c3
      refine cskip ?_
      refine xthn ?_
      refine cseq ?_
      refine creg ?_
      refine o1 (mv rfl) ?_
      refine o1 (mv rfl) ?_
      refine o1 (asn rfl) ?_
      refine o1 (asn rfl) ?_
      refine onil ?_
      refine xthn ?_
      refine cret ?_
      refine rety2 (_, _) (retg (bs := [.c (.l KRLSzSz) _, .c (.l KRLSzSz) _]) (ob' := []) [] rfl (.t rfl (.t rfl (.n))) (by decide) (hk hH rfl) (.n) (lc rfl (lc rfl rfl)) rfl) ?_
      try simp only []
      exact ⟨hy1.2.2, i0.2.2.2.2⟩

theorem c_spec_DrawDoCommands : Fr Go.Proofs.Try.prog 24 (ι := List KB.den) (κ := Leafs × List KROLSzSz.den) (fun code => [.c (.l KB) code]) (fun code => []) (fun code => code.length ≤ 4611686018427387904) (fun | code, (l, c) => SmL l ∧ SmC c) (fun | code, (l, c) => (.tup [.c (.l KRLSzSz) l, .c (.l KROLSzSz) c], [])) := by
  refine fnEr (n := 40) Go.Proofs.Try.func24 rfl rfl (ent Go.Proofs.Try.func24 (by kernel_rfl) rfl) ?_
  rintro code hx
  refine ⟨Le rfl, fun w0 S0 H Z hH => ?_⟩
  try simp only [] at hx
  refine cseq ?_
  refine creg ?_
  refine o1 (asn rfl) ?_
  refine o1 (asn rfl) ?_
  refine onil ?_
  refine xthn ?_
  refine cseq ?_
  refine creg ?_
  refine o1 (mv rfl) ?_
  refine o1 (bld pi120 zi120 (.c rfl rfl .n) rfl) ?_
  refine e1 (av := .bp 0 0) (sboxn rfl rfl) ?_
  refine o1 (asn rfl) ?_
  refine onil ?_
  refine xthn ?_
  refine cseq ?_
  refine creg ?_
  refine o1 (mv rfl) ?_
  refine cl c_spec_l1Cur_config (_, _, _) [0] [] (.c rfl (.c (.e rfl)) (.n)) (by first | trivial | assumption | omega | (simp only []; omega) | (refine ?_; omega) | (constructor <;> omega) | (refine ⟨?_, ?_⟩ <;> (first | assumption | omega | (simp; omega)))) (by decide) (by decide) (.c rfl rfl (.n)) (fun | (_, _, _) => Le rfl) (.inl rfl) ?_ (.inl rfl)
  rintro ⟨n21, s21, l1⟩ hy1
  try simp only [] at hy1
  refine owk (wsl (t := 14) (.own 1) rfl rfl) ?_
  refine o1 (asn rfl) ?_
  refine onil ?_
  refine xthn ?_
  refine cseq ?_
  refine cseq ?_
  refine cwk (shr (t := 5) (k := 1) rfl rfl) ?_
  refine creg ?_
  refine o1 (mv rfl) ?_
  refine cl c_spec_l1Cur_one (_, _, _, _) [0] [] (.c rfl (.c (.e rfl)) (.c rfl (.c (.e rfl)) (.n))) (by first | trivial | assumption | omega | (simp only []; omega) | (refine ?_; omega) | (constructor <;> omega) | (refine ⟨?_, ?_⟩ <;> (first | assumption | omega | (simp; omega)))) (by decide) (by decide) (.c rfl rfl (.n)) (fun | (_, _, _) => Le rfl) (.inl rfl) ?_ (.inl rfl)
  rintro ⟨n22, s22, x2⟩ hy2
  try simp only [] at hy2
  refine owk (wnorm (.c (o := .box _ _) rfl (.c rfl (.n))) rfl) ?_
  refine onil ?_
  refine xthn ?_
  refine ccond rfl (fun c1 => ?_) (fun c1 => ?_)
  · try simp only [q1, q2, q3, q4, q5, q6, q7, q8, q9, q10, q11, q12, q13, q14, q15, q16, q17] at c1
    refine cseq ?_
    refine creg ?_
    refine o1 (mv rfl) ?_
    refine o1 (mv rfl) ?_
    refine cl c_spec_l1Cur_config (_, _, _) [0] [] (.c rfl (.c (.e rfl)) (.n)) (by first | trivial | assumption | omega | (simp only []; omega) | (refine ?_; omega) | (constructor <;> omega) | (refine ⟨?_, ?_⟩ <;> (first | assumption | omega | (simp; omega)))) (by decide) (by decide) (.c rfl rfl (.n)) (fun | (_, _, _) => Le rfl) (.inl rfl) ?_ (.inl rfl)
    rintro ⟨n23, s23, l3⟩ hy3
    try simp only [] at hy3
    refine owk (wsl (t := 20) (.own 2) rfl rfl) ?_
    refine owk (shr (t := 20) (k := 2) rfl rfl) ?_
    refine ce c_spec_DiffOf (_, _) [] [] (.c rfl (.c (.e rfl)) (.c rfl (.c (.e rfl)) (.n))) (by first | trivial | assumption | omega | (simp only []; omega) | (refine ?_; omega) | (constructor <;> omega) | (refine ⟨?_, ?_⟩ <;> (first | assumption | omega | (simp; omega)))) (by decide) (by decide) (.n) rfl (.inl rfl) ?_ (.inl rfl)
    refine o1 (mv rfl) ?_
    refine o1 (xtr rfl rfl) ?_
    refine o1 (xtr rfl rfl) ?_
    refine o1 (asn rfl) ?_
    refine o1 (asn rfl) ?_
    refine onil ?_
    refine xthn ?_
    refine cseq ?_
    refine creg ?_
    refine o1 (mv rfl) ?_
    refine onil ?_
    refine xthn ?_
    refine ccond rfl (fun c2 => ?_) (fun c2 => ?_)
    · try simp only [q1, q2, q3, q4, q5, q6, q7, q8, q9, q10, q11, q12, q13, q14, q15, q16, q17] at c2
      refine cseq ?_
      refine creg ?_
      refine o1 (mv rfl) ?_
      refine o1 (mv rfl) ?_
      refine o1 (asn rfl) ?_
      refine o1 (asn rfl) ?_
      refine onil ?_
      refine xthn ?_
      refine cret ?_
      refine xthr ?_
      refine xwk (wnorm (.c (o := .box _ _) rfl (.c rfl (.c rfl (.n)))) rfl) ?_
      refine rety2 (_, _) (retg (bs := [.c (.l KRLSzSz) _, .c (.l KROLSzSz) _]) (ob' := []) [] rfl (.t rfl (.t rfl (.n))) (by decide) (hk hH rfl) (.n) (lc rfl (lc rfl rfl)) rfl) ?_
      try simp only []
      exact ⟨hy1.2.2, by rw [if_pos c2]; exact diff_SmC hy1.2.2 hy3.2.2⟩
    · try simp only [q1, q2, q3, q4, q5, q6, q7, q8, q9, q10, q11, q12, q13, q14, q15, q16, q17] at c2
      refine cskip ?_
      refine xthn ?_
      refine cseq ?_
      refine creg ?_
      refine o1 (asn rfl) ?_
      refine onil ?_
      refine xthn ?_
      refine cseq ?_
      refine cseq ?_
      refine creg ?_
      refine o1 (mv rfl) ?_
      refine cl c_spec_l1Cur_pick (_, _, _, _) [0] [] (.c rfl (.c (.e rfl)) (.c rfl (.c (.e rfl)) (.n))) (by first | trivial | assumption | omega | (simp only []; omega) | (refine ?_; omega) | (constructor <;> omega) | (refine ⟨?_, ?_⟩ <;> (first | assumption | omega | (simp; omega)))) (by decide) (by decide) (.c rfl rfl (.n)) (fun | (_, _, _) => Le rfl) (.inl rfl) ?_ (.inl rfl)
      rintro ⟨n24, s24, x4⟩ hy4
      try simp only [] at hy4
      refine owk (wnorm (.c (o := .box _ _) rfl (.c rfl (.c rfl (.n)))) rfl) ?_
      refine o1 (asn rfl) ?_
      refine onil ?_
      refine xthn ?_
      refine cblock ?_
      refine cwk (wno (t := 8) false 42 KROLSzSz rfl) ?_
      refine clk (ι := Int × List KROLSzSz.den × Int × Int) (.c 4 rfl (.c 5 rfl (.n))) (fun | (j, c, m, q), r => (9, .c (.i .i64) (j)) :: (8, .own 3) :: r) (fun | (j, c, m, q), r => (r.set 0 (.box 120 [.c (.l KB) code, .c (.i .i64) (m), .c (.i .u64) (q)])).set 3 (.arr false 42 KROLSzSz (c))) (fun | (j, c, m, q) => j ≤ 3 ∧ 0 ≤ j ∧ 0 ≤ m ∧ m + 20 * j ≤ 2000 ∧ (c.length : Int) + j ≤ 3 ∧ SmC c) (fun | (j, c, m, q) => j.toNat) (x4, [], n24, s24) (by exact ⟨by omega, by omega, by omega, by omega, by simp; omega, by simp, by simp⟩) (weak [0, 1, 2, 3] (by decide) (hk hH rfl) (by repeat (first | exact .n | refine .c rfl (by first | rfl) ?_)) (by repeat (first | exact .n | refine .c rfl (by first | rfl) ?_))) ?_
      rintro ⟨j, c, m, q⟩ i0
      try simp only [] at i0
      refine cseq ?_
      refine cseq ?_
      refine creg ?_
      refine o1 (mv rfl) ?_
      refine o1 (ibin rfl rfl rfl) ?_
      refine onil ?_
      refine xthn ?_
      refine ccond rfl (fun c3 => ?_) (fun c3 => ?_)
      · try simp only [q1, q2, q3, q4, q5, q6, q7, q8, q9, q10, q11, q12, q13, q14, q15, q16, q17] at c3
        refine cskip ?_
        refine xthn ?_
        refine cseq ?_
        refine cblock ?_
        refine creg ?_
        refine o1 (mv rfl) ?_
        refine o1 (mv rfl) ?_
        refine cl c_spec_l1Cur_command (_, _, _) [0] [] (.c rfl (.c (.e rfl)) (.n)) (by first | trivial | assumption | omega | (simp only []; omega) | (refine ?_; omega) | (constructor <;> omega) | (refine ⟨?_, ?_⟩ <;> (first | assumption | omega | (simp; omega)))) (by decide) (by decide) (.c rfl rfl (.n)) (fun | (_, _, _, _, _) => Le rfl) (.inl rfl) ?_ (.inl rfl)
        rintro ⟨n25, s25, b5, p5, v5⟩ hy5
        try simp only [] at hy5
        refine e1 (av := .own 4) (sbs1 mi37 (L rfl) (Le rfl) rfl (.i (.c (.c (.c (.n)))))) ?_
        refine owk (wnorm (.c (o := .box _ _) rfl (.c rfl (.c rfl (.c (o := .arr _ _ _ _) rfl (.c (o := .arr _ _ _ _) rfl (.n)))))) rfl) ?_
        refine e1 (av := .own 5) (sapp (k := 3) rfl rfl rfl (.o (j := 4) rfl rfl) mi37 (L rfl) (by first | omega | (simp only [List.length_cons, List.length_nil, List.length_append]; omega) | (simp; omega)) (by first | omega | (simp only [List.length_cons, List.length_nil, List.length_append]; omega) | (simp; omega))) ?_
        refine o1 (asn rfl) ?_
        refine onil ?_
        refine xbn ?_
        refine xthn ?_
        refine creg ?_
        refine o1 (mv rfl) ?_
        refine o1 (isub rfl rfl (by first | omega | (simp only [List.length_cons, List.length_nil, List.length_append]; omega) | (simp; omega)) (by first | omega | (simp only [List.length_cons, List.length_nil, List.length_append]; omega) | (simp; omega))) ?_
        refine o1 (asn rfl) ?_
        refine onil ?_
        refine xlq (j - 1, c ++ [(b5, p5, v5, ())], n25, s25) (by exact ⟨by omega, by omega, by omega, by omega, by simp only [List.length_append, List.length_cons, List.length_nil]; omega, by simp only [List.length_append, List.length_cons, List.length_nil]; omega, fun x hx => (List.mem_append.1 hx).elim (i0.2.2.2.2.2.2 x) (fun h => by rw [List.mem_singleton] at h; subst h; exact hy5.2.2)⟩) (by first | omega | (simp only []; omega)) (weak [0, 1, 2, 5] (by decide) (hk hH rfl) (by repeat (first | exact .n | refine .c rfl (by first | rfl) ?_)) (by repeat (first | exact .n | refine .c rfl (by first | rfl) ?_)))
      · try simp only [q1, q2, q3, q4, q5, q6, q7, q8, q9, q10, q11, q12, q13, q14, q15, q16, q17] at c3
        refine cexit ?_
        refine xthe ?_
        refine xle ?_
        refine xbh ?_
        refine xthn ?_
        refine cseq ?_
        refine creg ?_
        refine o1 (mv rfl) ?_
        refine o1 (mv rfl) ?_
        refine o1 (asn rfl) ?_
        refine o1 (asn rfl) ?_
        refine onil ?_
        refine xthn ?_
        refine cret ?_
        refine xwk (shr (t := 3) (k := 3) rfl rfl) ?_
        refine rety2 (_, _) (retg (bs := [.c (.l KRLSzSz) _, .c (.l KROLSzSz) _]) (ob' := []) [] rfl (.t rfl (.t rfl (.n))) (by decide) (hk hH rfl) (.n) (lc rfl (lc rfl rfl)) rfl) ?_
        try simp only []
        exact ⟨hy1.2.2, i0.2.2.2.2.2⟩
  · try simp only [q1, q2, q3, q4, q5, q6, q7, q8, q9, q10, q11, q12, q13, q14, q15, q16, q17] at c1
    refine cskip ?_
    refine xthn ?_
    refine cseq ?_
    refine creg ?_
    refine o1 (asn rfl) ?_
    refine onil ?_
    refine xthn ?_
    refine cseq ?_
    refine cseq ?_
    refine creg ?_
    refine o1 (mv rfl) ?_
    refine cl c_spec_l1Cur_pick (_, _, _, _) [0] [] (.c rfl (.c (.e rfl)) (.c rfl (.c (.e rfl)) (.n))) (by first | trivial | assumption | omega | (simp only []; omega) | (refine ?_; omega) | (constructor <;> omega) | (refine ⟨?_, ?_⟩ <;> (first | assumption | omega | (simp; omega)))) (by decide) (by decide) (.c rfl rfl (.n)) (fun | (_, _, _) => Le rfl) (.inl rfl) ?_ (.inl rfl)
    rintro ⟨n26, s26, x6⟩ hy6
    try simp only [] at hy6
    refine o1 (asn rfl) ?_
    refine onil ?_
    refine xthn ?_
    refine cblock ?_
    refine cwk (wno (t := 8) false 42 KROLSzSz rfl) ?_
    refine clk (ι := Int × List KROLSzSz.den × Int × Int) (.c 4 rfl (.c 5 rfl (.n))) (fun | (j, c, m, q), r => (9, .c (.i .i64) (j)) :: (8, .own 2) :: r) (fun | (j, c, m, q), r => (r.set 0 (.box 120 [.c (.l KB) code, .c (.i .i64) (m), .c (.i .u64) (q)])).set 2 (.arr false 42 KROLSzSz (c))) (fun | (j, c, m, q) => j ≤ 3 ∧ 0 ≤ j ∧ 0 ≤ m ∧ m + 20 * j ≤ 2000 ∧ (c.length : Int) + j ≤ 3 ∧ SmC c) (fun | (j, c, m, q) => j.toNat) (x6, [], n26, s26) (by exact ⟨by omega, by omega, by omega, by omega, by simp; omega, by simp, by simp⟩) (weak [0, 1, 2] (by decide) (hk hH rfl) (by repeat (first | exact .n | refine .c rfl (by first | rfl) ?_)) (by repeat (first | exact .n | refine .c rfl (by first | rfl) ?_))) ?_
    rintro ⟨j, c, m, q⟩ i0
    try simp only [] at i0
    refine cseq ?_
    refine cseq ?_
    refine creg ?_
    refine o1 (mv rfl) ?_
    refine o1 (ibin rfl rfl rfl) ?_
    refine onil ?_
    refine xthn ?_
    refine ccond rfl (fun c4 => ?_) (fun c4 => ?_)
    · try simp only [q1, q2, q3, q4, q5, q6, q7, q8, q9, q10, q11, q12, q13, q14, q15, q16, q17] at c4
      refine cskip ?_
      refine xthn ?_
      refine cseq ?_
      refine cblock ?_
      refine creg ?_
      refine o1 (mv rfl) ?_
      refine o1 (mv rfl) ?_
      refine cl c_spec_l1Cur_command (_, _, _) [0] [] (.c rfl (.c (.e rfl)) (.n)) (by first | trivial | assumption | omega | (simp only []; omega) | (refine ?_; omega) | (constructor <;> omega) | (refine ⟨?_, ?_⟩ <;> (first | assumption | omega | (simp; omega)))) (by decide) (by decide) (.c rfl rfl (.n)) (fun | (_, _, _, _, _) => Le rfl) (.inl rfl) ?_ (.inl rfl)
      rintro ⟨n27, s27, b7, p7, v7⟩ hy7
      try simp only [] at hy7
      refine owk (wnorm (.c (o := .box _ _) rfl (.c rfl (.c (o := .arr _ _ _ _) rfl (.n)))) rfl) ?_
      refine e1 (av := .own 3) (sbs1 mi37 (L rfl) (Le rfl) rfl (.i (.c (.c (.c (.n)))))) ?_
      refine e1 (av := .own 4) (sapp (k := 2) rfl rfl rfl (.o (j := 3) rfl rfl) mi37 (L rfl) (by first | omega | (simp only [List.length_cons, List.length_nil, List.length_append]; omega) | (simp; omega)) (by first | omega | (simp only [List.length_cons, List.length_nil, List.length_append]; omega) | (simp; omega))) ?_
      refine o1 (asn rfl) ?_
      refine onil ?_
      refine xbn ?_
      refine xthn ?_
      refine creg ?_
      refine o1 (mv rfl) ?_
      refine o1 (isub rfl rfl (by first | omega | (simp only [List.length_cons, List.length_nil, List.length_append]; omega) | (simp; omega)) (by first | omega | (simp only [List.length_cons, List.length_nil, List.length_append]; omega) | (simp; omega))) ?_
      refine o1 (asn rfl) ?_
      refine onil ?_
      refine xlq (j - 1, c ++ [(b7, p7, v7, ())], n27, s27) (by exact ⟨by omega, by omega, by omega, by omega, by simp only [List.length_append, List.length_cons, List.length_nil]; omega, by simp only [List.length_append, List.length_cons, List.length_nil]; omega, fun x hx => (List.mem_append.1 hx).elim (i0.2.2.2.2.2.2 x) (fun h => by rw [List.mem_singleton] at h; subst h; exact hy7.2.2)⟩) (by first | omega | (simp only []; omega)) (weak [0, 1, 4] (by decide) (hk hH rfl) (by repeat (first | exact .n | refine .c rfl (by first | rfl) ?_)) (by repeat (first | exact .n | refine .c rfl (by first | rfl) ?_)))
    · try simp only [q1, q2, q3, q4, q5, q6, q7, q8, q9, q10, q11, q12, q13, q14, q15, q16, q17] at c4
      refine cexit ?_
      refine xthe ?_
      refine xle ?_
      refine xbh ?_
      refine xthn ?_
      refine cseq ?_
      refine creg ?_
      refine o1 (mv rfl) ?_
      refine o1 (mv rfl) ?_
      refine o1 (asn rfl) ?_
      refine o1 (asn rfl) ?_
      refine onil ?_
      refine xthn ?_
      refine cret ?_
      refine xwk (wnorm (.c (o := .box _ _) rfl (.c rfl (.c (o := .arr _ _ _ _) rfl (.n)))) rfl) ?_
      refine xwk (shr (t := 3) (k := 2) rfl rfl) ?_
      refine rety2 (_, _) (retg (bs := [.c (.l KRLSzSz) _, .c (.l KROLSzSz) _]) (ob' := []) [] rfl (.t rfl (.t rfl (.n))) (by decide) (hk hH rfl) (.n) (lc rfl (lc rfl rfl)) rfl) ?_
      try simp only []
      exact ⟨hy1.2.2, i0.2.2.2.2.2⟩

end Go.Proofs.YtifpekpmnlcmoaaE
