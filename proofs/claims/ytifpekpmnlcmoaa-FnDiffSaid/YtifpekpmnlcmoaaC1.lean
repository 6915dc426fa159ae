import Derived.Test.YtifpekpmnlcmoaaProg
import Derived.Test.YtifpekpmnlcmoaaE33
import Derived.Test.YtifpekpmnlcmoaaA3
set_option linter.unusedVariables false
set_option linter.unusedSimpArgs false
set_option maxRecDepth 100000
namespace Go.Proofs.YtifpekpmnlcmoaaE
open Go Go.RowKit Go.Shelf Go.Proofs
abbrev KB : Tys := .cons (.i .u8) .nil
theorem fi120_1 : finfo Go.Proofs.Try.prog 120 1 = some 1 := by kernel_rfl
theorem ti3 : TI Go.Proofs.Try.prog 3 false 1 := ti (by kernel_rfl)
theorem fi120_0 : finfo Go.Proofs.Try.prog 120 0 = some 0 := by kernel_rfl
theorem ti34 : TI Go.Proofs.Try.prog 34 false 1 := ti (by kernel_rfl)
theorem li34 : linfo Go.Proofs.Try.prog 34 = some (5, 1) := by kernel_rfl
theorem ti5 : TI Go.Proofs.Try.prog 5 false 1 := ti (by kernel_rfl)
theorem ui5 : (Go.Proofs.Try.prog).underlying 5 = some (.int .u8) := by kernel_rfl
theorem ui3 : (Go.Proofs.Try.prog).underlying 3 = some (.int .i64) := by kernel_rfl
theorem fi120_2 : finfo Go.Proofs.Try.prog 120 2 = some 2 := by kernel_rfl
theorem ti118 : TI Go.Proofs.Try.prog 118 false 1 := ti (by kernel_rfl)
theorem ui118 : (Go.Proofs.Try.prog).underlying 118 = some (.int .u64) := by kernel_rfl

theorem tmod_rng {x m : Int} (h : 0 ≤ x) (hm : 1 < m) : 0 ≤ x.tmod m ∧ x.tmod m < m := by
  rw [Int.tmod_eq_emod_of_nonneg h]
  exact ⟨Int.emod_nonneg x (by omega), Int.emod_lt_of_pos x (by omega)⟩
theorem u8_rng {x : Int} (h : IntKind.u8.wrap x = x) : 0 ≤ x ∧ x ≤ 255 := by
  have e : IntKind.u8.wrap x = x % 256 := by simp [IntKind.wrap, IntKind.bits, IntKind.signed]
  rw [e] at h; omega
theorem u8_i64 {x : Int} (h : 0 ≤ x ∧ x ≤ 255) : IntKind.i64.wrap x = x := by
  simp only [IntKind.wrap, IntKind.bits, IntKind.signed]; simp; omega
theorem and255 (x : Int) : 0 ≤ IntKind.i64.wrap (IntKind.u64.wrap ((BitVec.ofInt IntKind.u64.bits x &&& BitVec.ofInt IntKind.u64.bits 255).toNat : Int)) ∧ IntKind.i64.wrap (IntKind.u64.wrap ((BitVec.ofInt IntKind.u64.bits x &&& BitVec.ofInt IntKind.u64.bits 255).toNat : Int)) ≤ 255 := by
  have h : (BitVec.ofInt IntKind.u64.bits x &&& BitVec.ofInt IntKind.u64.bits 255).toNat ≤ 255 := by
    rw [BitVec.toNat_and]
    exact Nat.le_trans Nat.and_le_right (by decide)
  generalize (BitVec.ofInt IntKind.u64.bits x &&& BitVec.ofInt IntKind.u64.bits 255).toNat = m at h
  have e1 : IntKind.u64.wrap (m : Int) = m := by simp only [IntKind.wrap, IntKind.bits, IntKind.signed]; simp; omega
  rw [e1, u8_i64 (by omega)]; omega

theorem c_spec_l1Cur_next : Fr Go.Proofs.Try.prog 125 (ι := List KB.den × Int × Int) (κ := Int × Int × Int) (fun | (code, n, s) => [.bp 0 0]) (fun | (code, n, s) => [.box 120 [.c (.l KB) code, .c (.i .i64) (n), .c (.i .u64) (s)]]) (fun | (code, n, s) => 0 ≤ n ∧ n ≤ 4611686018427387904 - 1 ∧ code.length ≤ 4611686018427387904) (fun | (code, n, s), (n2, s2, b) => n ≤ n2 ∧ n2 ≤ n + 1 ∧ 0 ≤ b ∧ b ≤ 255) (fun | (code, n, s), (n2, s2, b) => (.c (.i .i64) b, [.box 120 [.c (.l KB) code, .c (.i .i64) (n2), .c (.i .u64) (s2)]])) := by
  refine fnEr (n := 62) Go.Proofs.Try.func125 rfl rfl (ent Go.Proofs.Try.func125 (by kernel_rfl) rfl) ?_
  rintro ⟨code, n, s⟩ hx
  refine ⟨Le rfl, fun w0 S0 H Z hH => ?_⟩
  try simp only [] at hx
  refine cseq ?_
  refine creg ?_
  refine o1 (asn rfl) ?_
  refine onil ?_
  refine xthn ?_
  refine cseq ?_
  refine creg ?_
  refine o1 (asn rfl) ?_
  refine onil ?_
  refine xthn ?_
  refine cseq ?_
  refine cseq ?_
  refine cregh [] mixed ?_
  refine v1 (hi := rfl) 0 (fun _ => mv rfl) ?_
  refine v1 (hi := rfl) 1 (fun _ => ncb rfl) ?_
  refine v1 (hi := rfl) 2 (fun _ => fab rfl fi120_1) ?_
  refine v1 (hi := rfl) 3 (fun _ => ldb rfl rfl rfl ti3) ?_
  refine v1 (hi := rfl) 4 (fun _ => mv rfl) ?_
  refine v1 (hi := rfl) 5 (fun _ => ncb rfl) ?_
  refine v1 (hi := rfl) 6 (fun _ => fab rfl fi120_0) ?_
  refine v1 (hi := rfl) 7 (fun _ => ldb rfl rfl rfl ti34) ?_
  refine hfact (t := 11) rfl fun hl1 => ?_
  refine v1 (hi := rfl) 8 (fun _ => lenl rfl li34) ?_
  refine v1 (hi := rfl) 9 (fun _ => ibin rfl rfl rfl) ?_
  refine h9 ?_
  refine xthn ?_
  refine ccond rfl (fun c1 => ?_) (fun c1 => ?_)
  · try simp only [q1, q2, q3, q4, q5, q6, q7, q8, q9, q10, q11, q12, q13, q14, q15, q16, q17] at c1
    refine cregh [] mixed ?_
    refine v1 (hi := rfl) 0 (fun _ => mv rfl) ?_
    refine v1 (hi := rfl) 1 (fun _ => ncb rfl) ?_
    refine v1 (hi := rfl) 2 (fun _ => fab rfl fi120_0) ?_
    refine v1 (hi := rfl) 3 (fun _ => ldb rfl rfl rfl ti34) ?_
    refine v1 (hi := rfl) 4 (fun _ => mv rfl) ?_
    refine v1 (hi := rfl) 5 (fun _ => ncb rfl) ?_
    refine v1 (hi := rfl) 6 (fun _ => fab rfl fi120_1) ?_
    refine v1 (hi := rfl) 7 (fun _ => ldb rfl rfl rfl ti3) ?_
    refine v1 (hi := rfl) 8 (fun _ => ixl rfl rfl li34 rfl (by first | omega | (simp only [List.length_cons, List.length_nil, List.length_append]; omega) | (simp; omega)) (by first | omega | (simp only [List.length_cons, List.length_nil, List.length_append]; omega) | (simp; omega))) ?_
    refine v1 (hi := rfl) 9 (fun _ => ldr rfl ti5) ?_
    refine hfacti (t := 23) rfl fun hb => ?_
    refine v1 (hi := rfl) 10 (fun _ => cvi rfl ui5 ui3) ?_
    refine v1 (hi := rfl) 11 (fun _ => asn rfl) ?_
    have hr := u8_rng hb
    have hw := u8_i64 hr
    refine h9 ?_
    refine xthn ?_
    refine cseq ?_
    refine creg ?_
    refine o1 (mv rfl) ?_
    refine o1 (ncb rfl) ?_
    refine o1 (fab rfl fi120_1) ?_
    refine o1 (ldb rfl rfl rfl ti3) ?_
    refine o1 (iadd rfl rfl (by first | omega | (simp only [List.length_cons, List.length_nil, List.length_append]; omega) | (simp; omega)) (by first | omega | (simp only [List.length_cons, List.length_nil, List.length_append]; omega) | (simp; omega))) ?_
    refine o1 (ncb rfl) ?_
    refine o1 (fab rfl fi120_1) ?_
    refine e0 (sst rfl rfl rfl rfl (Le rfl) ti3) ?_
    refine onil ?_
    refine xthn ?_
    refine cseq ?_
    refine creg ?_
    refine o1 (mv rfl) ?_
    refine o1 (mv rfl) ?_
    refine o1 (ncb rfl) ?_
    refine o1 (fab rfl fi120_2) ?_
    refine o1 (ldb rfl rfl rfl ti118) ?_
    refine o1 (ibin rfl rfl rfl) ?_
    refine o1 (mv rfl) ?_
    refine o1 (cvi rfl ui3 ui118) ?_
    refine o1 (ibin rfl rfl rfl) ?_
    refine o1 (ibin rfl rfl rfl) ?_
    refine o1 (ncb rfl) ?_
    refine o1 (fab rfl fi120_2) ?_
    refine e0 (sst rfl rfl rfl rfl (Le rfl) ti118) ?_
    refine onil ?_
    refine xthn ?_
    refine cseq ?_
    refine cseq ?_
    refine cregh [] mixed ?_
    refine v1 (hi := rfl) 0 (fun _ => mv rfl) ?_
    refine v1 (hi := rfl) 1 (fun _ => ncb rfl) ?_
    refine v1 (hi := rfl) 2 (fun _ => fab rfl fi120_1) ?_
    refine v1 (hi := rfl) 3 (fun _ => ldb rfl rfl rfl ti3) ?_
    refine v1 (hi := rfl) 4 (fun _ => mv rfl) ?_
    refine v1 (hi := rfl) 5 (fun _ => ncb rfl) ?_
    refine v1 (hi := rfl) 6 (fun _ => fab rfl fi120_0) ?_
    refine v1 (hi := rfl) 7 (fun _ => ldb rfl rfl rfl ti34) ?_
    refine hfact (t := 51) rfl fun hl2 => ?_
    refine v1 (hi := rfl) 8 (fun _ => lenl rfl li34) ?_
    refine v1 (hi := rfl) 9 (fun _ => ibin rfl rfl rfl) ?_
    refine h9 ?_
    refine xthn ?_
    refine ccond rfl (fun c2 => ?_) (fun c2 => ?_)
    · try simp only [q1, q2, q3, q4, q5, q6, q7, q8, q9, q10, q11, q12, q13, q14, q15, q16, q17] at c2
      refine cseq ?_
      refine creg ?_
      refine o1 (mv rfl) ?_
      refine o1 (asn rfl) ?_
      refine onil ?_
      refine xthn ?_
      refine cret ?_
      refine xthr ?_
      refine rety2 (_, _, _) (retg (bs := [.c (.i .i64) _]) (ob' := [.box 120 [.c (.l KB) code, .c (.i .i64) (_), .c (.i .u64) (_)]]) [0] rfl (.t rfl (.n)) (by decide) (hk hH rfl) (.c rfl rfl (.n)) (lc rfl rfl) rfl) ?_
      try simp only []
      refine ⟨by omega, by omega, ?_⟩; first | (rw [hw]; exact hr) | omega
    · try simp only [q1, q2, q3, q4, q5, q6, q7, q8, q9, q10, q11, q12, q13, q14, q15, q16, q17] at c2
      refine cskip ?_
      refine xthn ?_
      refine cseq ?_
      refine creg ?_
      refine o1 (mv rfl) ?_
      refine o1 (ncb rfl) ?_
      refine o1 (fab rfl fi120_2) ?_
      refine o1 (ldb rfl rfl rfl ti118) ?_
      refine o1 (ishr rfl rfl (by decide)) ?_
      refine o1 (ibin rfl rfl rfl) ?_
      refine o1 (cvi rfl ui118 ui3) ?_
      refine o1 (asn rfl) ?_
      refine onil ?_
      refine xthn ?_
      refine cret ?_
      refine rety2 (_, _, _) (retg (bs := [.c (.i .i64) _]) (ob' := [.box 120 [.c (.l KB) code, .c (.i .i64) (_), .c (.i .u64) (_)]]) [0] rfl (.t rfl (.n)) (by decide) (hk hH rfl) (.c rfl rfl (.n)) (lc rfl rfl) rfl) ?_
      try simp only []
      refine ⟨by omega, by omega, ?_⟩; exact and255 _
  · try simp only [q1, q2, q3, q4, q5, q6, q7, q8, q9, q10, q11, q12, q13, q14, q15, q16, q17] at c1
    refine cskip ?_
    refine xthn ?_
    refine cseq ?_
    refine creg ?_
    refine o1 (mv rfl) ?_
    refine o1 (ncb rfl) ?_
    refine o1 (fab rfl fi120_1) ?_
    refine o1 (ldb rfl rfl rfl ti3) ?_
    refine o1 (iadd rfl rfl (by first | omega | (simp only [List.length_cons, List.length_nil, List.length_append]; omega) | (simp; omega)) (by first | omega | (simp only [List.length_cons, List.length_nil, List.length_append]; omega) | (simp; omega))) ?_
    refine o1 (ncb rfl) ?_
    refine o1 (fab rfl fi120_1) ?_
    refine e0 (sst rfl rfl rfl rfl (Le rfl) ti3) ?_
    refine onil ?_
    refine xthn ?_
    refine cseq ?_
    refine creg ?_
    refine o1 (mv rfl) ?_
    refine o1 (mv rfl) ?_
    refine o1 (ncb rfl) ?_
    refine o1 (fab rfl fi120_2) ?_
    refine o1 (ldb rfl rfl rfl ti118) ?_
    refine o1 (ibin rfl rfl rfl) ?_
    refine o1 (mv rfl) ?_
    refine o1 (cvi rfl ui3 ui118) ?_
    refine o1 (ibin rfl rfl rfl) ?_
    refine o1 (ibin rfl rfl rfl) ?_
    refine o1 (ncb rfl) ?_
    refine o1 (fab rfl fi120_2) ?_
    refine e0 (sst rfl rfl rfl rfl (Le rfl) ti118) ?_
    refine onil ?_
    refine xthn ?_
    refine cseq ?_
    refine cseq ?_
    refine cregh [] mixed ?_
    refine v1 (hi := rfl) 0 (fun _ => mv rfl) ?_
    refine v1 (hi := rfl) 1 (fun _ => ncb rfl) ?_
    refine v1 (hi := rfl) 2 (fun _ => fab rfl fi120_1) ?_
    refine v1 (hi := rfl) 3 (fun _ => ldb rfl rfl rfl ti3) ?_
    refine v1 (hi := rfl) 4 (fun _ => mv rfl) ?_
    refine v1 (hi := rfl) 5 (fun _ => ncb rfl) ?_
    refine v1 (hi := rfl) 6 (fun _ => fab rfl fi120_0) ?_
    refine v1 (hi := rfl) 7 (fun _ => ldb rfl rfl rfl ti34) ?_
    refine hfact (t := 51) rfl fun hl3 => ?_
    refine v1 (hi := rfl) 8 (fun _ => lenl rfl li34) ?_
    refine v1 (hi := rfl) 9 (fun _ => ibin rfl rfl rfl) ?_
    refine h9 ?_
    refine xthn ?_
    refine ccond rfl (fun c3 => ?_) (fun c3 => ?_)
    · try simp only [q1, q2, q3, q4, q5, q6, q7, q8, q9, q10, q11, q12, q13, q14, q15, q16, q17] at c3
      refine cseq ?_
      refine creg ?_
      refine o1 (mv rfl) ?_
      refine o1 (asn rfl) ?_
      refine onil ?_
      refine xthn ?_
      refine cret ?_
      refine xthr ?_
      refine rety2 (_, _, _) (retg (bs := [.c (.i .i64) _]) (ob' := [.box 120 [.c (.l KB) code, .c (.i .i64) (_), .c (.i .u64) (_)]]) [0] rfl (.t rfl (.n)) (by decide) (hk hH rfl) (.c rfl rfl (.n)) (lc rfl rfl) rfl) ?_
      try simp only []
      refine ⟨by omega, by omega, ?_⟩; omega
    · try simp only [q1, q2, q3, q4, q5, q6, q7, q8, q9, q10, q11, q12, q13, q14, q15, q16, q17] at c3
      refine cskip ?_
      refine xthn ?_
      refine cseq ?_
      refine creg ?_
      refine o1 (mv rfl) ?_
      refine o1 (ncb rfl) ?_
      refine o1 (fab rfl fi120_2) ?_
      refine o1 (ldb rfl rfl rfl ti118) ?_
      refine o1 (ishr rfl rfl (by decide)) ?_
      refine o1 (ibin rfl rfl rfl) ?_
      refine o1 (cvi rfl ui118 ui3) ?_
      refine o1 (asn rfl) ?_
      refine onil ?_
      refine xthn ?_
      refine cret ?_
      refine rety2 (_, _, _) (retg (bs := [.c (.i .i64) _]) (ob' := [.box 120 [.c (.l KB) code, .c (.i .i64) (_), .c (.i .u64) (_)]]) [0] rfl (.t rfl (.n)) (by decide) (hk hH rfl) (.c rfl rfl (.n)) (lc rfl rfl) rfl) ?_
      try simp only []
      refine ⟨by omega, by omega, ?_⟩; exact and255 _

theorem c_spec_l1Cur_pick : Fr Go.Proofs.Try.prog 74 (ι := List KB.den × Int × Int × Int) (κ := Int × Int × Int) (fun | (code, n, s, m) => [.bp 0 0, .c (.i .i64) m]) (fun | (code, n, s, m) => [.box 120 [.c (.l KB) code, .c (.i .i64) (n), .c (.i .u64) (s)]]) (fun | (code, n, s, m) => 0 ≤ n ∧ n ≤ 4611686018427387904 - 2 ∧ code.length ≤ 4611686018427387904 ∧ m ≤ 65536) (fun | (code, n, s, m), (n2, s2, x) => n ≤ n2 ∧ n2 ≤ n + 2 ∧ (m ≤ 1 ∧ x = 0 ∨ 1 < m ∧ 0 ≤ x ∧ x < m)) (fun | (code, n, s, m), (n2, s2, x) => (.c (.i .i64) x, [.box 120 [.c (.l KB) code, .c (.i .i64) (n2), .c (.i .u64) (s2)]])) := by
  refine fnEr (n := 20) Go.Proofs.Try.func74 rfl rfl (ent Go.Proofs.Try.func74 (by kernel_rfl) rfl) ?_
  rintro ⟨code, n, s, m⟩ hx
  refine ⟨Le rfl, fun w0 S0 H Z hH => ?_⟩
  try simp only [] at hx
  refine cseq ?_
  refine creg ?_
  refine o1 (asn rfl) ?_
  refine onil ?_
  refine xthn ?_
  refine cseq ?_
  refine cseq ?_
  refine creg ?_
  refine o1 (mv rfl) ?_
  refine o1 (ibin rfl rfl rfl) ?_
  refine onil ?_
  refine xthn ?_
  refine ccond rfl (fun c1 => ?_) (fun c1 => ?_)
  · try simp only [q1, q2, q3, q4, q5, q6, q7, q8, q9, q10, q11, q12, q13, q14, q15, q16, q17] at c1
    refine cseq ?_
    refine creg ?_
    refine o1 (asn rfl) ?_
    refine onil ?_
    refine xthn ?_
    refine cret ?_
    refine xthr ?_
    refine rety2 (_, _, _) (retg (bs := [.c (.i .i64) _]) (ob' := [.box 120 [.c (.l KB) code, .c (.i .i64) (_), .c (.i .u64) (_)]]) [0] rfl (.t rfl (.n)) (by decide) (hk hH rfl) (.c rfl rfl (.n)) (lc rfl rfl) rfl) ?_
    try simp only []
    exact ⟨by omega, by omega, .inl ⟨by omega, by first | rfl | trivial⟩⟩
  · try simp only [q1, q2, q3, q4, q5, q6, q7, q8, q9, q10, q11, q12, q13, q14, q15, q16, q17] at c1
    refine cskip ?_
    refine xthn ?_
    refine cseq ?_
    refine creg ?_
    refine o1 (mv rfl) ?_
    refine cl c_spec_l1Cur_next (_, _, _) [0] [] (.c rfl (.c (.e rfl)) (.n)) (by first | trivial | assumption | omega | (simp only []; omega) | (refine ?_; omega) | (constructor <;> omega) | (refine ⟨?_, ?_⟩ <;> (first | assumption | omega | (simp; omega)))) (by decide) (by decide) (.c rfl rfl (.n)) (fun | (_, _, _) => Le rfl) (.inl rfl) ?_ (.inl rfl)
    rintro ⟨n21, s21, b1⟩ hy1
    try simp only [] at hy1
    refine o1 (asn rfl) ?_
    refine onil ?_
    refine xthn ?_
    refine cseq ?_
    refine cseq ?_
    refine creg ?_
    refine o1 (mv rfl) ?_
    refine o1 (ibin rfl rfl rfl) ?_
    refine onil ?_
    refine xthn ?_
    refine ccond rfl (fun c2 => ?_) (fun c2 => ?_)
    · try simp only [q1, q2, q3, q4, q5, q6, q7, q8, q9, q10, q11, q12, q13, q14, q15, q16, q17] at c2
      refine creg ?_
      refine o1 (mv rfl) ?_
      refine o1 (imul rfl rfl (by first | omega | (simp only [List.length_cons, List.length_nil, List.length_append]; omega) | (simp; omega)) (by first | omega | (simp only [List.length_cons, List.length_nil, List.length_append]; omega) | (simp; omega))) ?_
      refine o1 (mv rfl) ?_
      refine cl c_spec_l1Cur_next (_, _, _) [0] [] (.c rfl (.c (.e rfl)) (.n)) (by first | trivial | assumption | omega | (simp only []; omega) | (refine ?_; omega) | (constructor <;> omega) | (refine ⟨?_, ?_⟩ <;> (first | assumption | omega | (simp; omega)))) (by decide) (by decide) (.c rfl rfl (.n)) (fun | (_, _, _) => Le rfl) (.inl rfl) ?_ (.inl rfl)
      rintro ⟨n22, s22, b2⟩ hy2
      try simp only [] at hy2
      refine o1 (iadd rfl rfl (by first | omega | (simp only [List.length_cons, List.length_nil, List.length_append]; omega) | (simp; omega)) (by first | omega | (simp only [List.length_cons, List.length_nil, List.length_append]; omega) | (simp; omega))) ?_
      refine o1 (asn rfl) ?_
      refine onil ?_
      refine xthn ?_
      refine cseq ?_
      refine creg ?_
      refine o1 (mv rfl) ?_
      refine o1 (mv rfl) ?_
      refine o1 (irem rfl rfl (by first | omega | (simp only [List.length_cons, List.length_nil, List.length_append]; omega) | (simp; omega))) ?_
      refine o1 (asn rfl) ?_
      refine onil ?_
      refine xthn ?_
      refine cret ?_
      refine rety2 (_, _, _) (retg (bs := [.c (.i .i64) _]) (ob' := [.box 120 [.c (.l KB) code, .c (.i .i64) (_), .c (.i .u64) (_)]]) [0] rfl (.t rfl (.n)) (by decide) (hk hH rfl) (.c rfl rfl (.n)) (lc rfl rfl) rfl) ?_
      try simp only []
      exact ⟨by omega, by omega, .inr ⟨by omega, tmod_rng (by omega) (by omega)⟩⟩
    · try simp only [q1, q2, q3, q4, q5, q6, q7, q8, q9, q10, q11, q12, q13, q14, q15, q16, q17] at c2
      refine cskip ?_
      refine xthn ?_
      refine cseq ?_
      refine creg ?_
      refine o1 (mv rfl) ?_
      refine o1 (mv rfl) ?_
      refine o1 (irem rfl rfl (by first | omega | (simp only [List.length_cons, List.length_nil, List.length_append]; omega) | (simp; omega))) ?_
      refine o1 (asn rfl) ?_
      refine onil ?_
      refine xthn ?_
      refine cret ?_
      refine rety2 (_, _, _) (retg (bs := [.c (.i .i64) _]) (ob' := [.box 120 [.c (.l KB) code, .c (.i .i64) (_), .c (.i .u64) (_)]]) [0] rfl (.t rfl (.n)) (by decide) (hk hH rfl) (.c rfl rfl (.n)) (lc rfl rfl) rfl) ?_
      try simp only []
      exact ⟨by omega, by omega, .inr ⟨by omega, tmod_rng (by omega) (by omega)⟩⟩

theorem c_spec_l1Cur_one : Fr Go.Proofs.Try.prog 78 (ι := List KB.den × Int × Int × Int) (κ := Int × Int × Bool) (fun | (code, n, s, m) => [.bp 0 0, .c (.i .i64) m]) (fun | (code, n, s, m) => [.box 120 [.c (.l KB) code, .c (.i .i64) (n), .c (.i .u64) (s)]]) (fun | (code, n, s, m) => 0 ≤ n ∧ n ≤ 4611686018427387904 - 2 ∧ code.length ≤ 4611686018427387904 ∧ m ≤ 65536) (fun | (code, n, s, m), (n2, s2, x) => n ≤ n2 ∧ n2 ≤ n + 2 ∧ True) (fun | (code, n, s, m), (n2, s2, x) => (.c .b x, [.box 120 [.c (.l KB) code, .c (.i .i64) (n2), .c (.i .u64) (s2)]])) := by
  refine fnEr (n := 9) Go.Proofs.Try.func78 rfl rfl (ent Go.Proofs.Try.func78 (by kernel_rfl) rfl) ?_
  rintro ⟨code, n, s, m⟩ hx
  refine ⟨Le rfl, fun w0 S0 H Z hH => ?_⟩
  try simp only [] at hx
  refine cseq ?_
  refine creg ?_
  refine o1 (asn rfl) ?_
  refine onil ?_
  refine xthn ?_
  refine cseq ?_
  refine creg ?_
  refine o1 (mv rfl) ?_
  refine o1 (mv rfl) ?_
  refine cl c_spec_l1Cur_pick (_, _, _, _) [0] [] (.c rfl (.c (.e rfl)) (.c rfl (.c (.e rfl)) (.n))) (by first | trivial | assumption | omega | (simp only []; omega) | (refine ?_; omega) | (constructor <;> omega) | (refine ⟨?_, ?_⟩ <;> (first | assumption | omega | (simp; omega)))) (by decide) (by decide) (.c rfl rfl (.n)) (fun | (_, _, _) => Le rfl) (.inl rfl) ?_ (.inl rfl)
  rintro ⟨n21, s21, x1⟩ hy1
  try simp only [] at hy1
  refine o1 (ibin rfl rfl rfl) ?_
  refine o1 (asn rfl) ?_
  refine onil ?_
  refine xthn ?_
  refine cret ?_
  refine rety2 (_, _, _) (retg (bs := [.c .b _]) (ob' := [.box 120 [.c (.l KB) code, .c (.i .i64) (_), .c (.i .u64) (_)]]) [0] rfl (.t rfl (.n)) (by decide) (hk hH rfl) (.c rfl rfl (.n)) (lc rfl rfl) rfl) ?_
  try simp only []
  exact ⟨by omega, by omega, trivial⟩

theorem c_spec_l1Cur_of : Fr Go.Proofs.Try.prog 126 (ι := List KB.den × Int × Int × List KS.den) (κ := Int × Int × List UInt8) (fun | (code, n, s, l) => [.bp 0 0, .c (.l KS) l]) (fun | (code, n, s, l) => [.box 120 [.c (.l KB) code, .c (.i .i64) (n), .c (.i .u64) (s)]]) (fun | (code, n, s, l) => 0 ≤ n ∧ n ≤ 4611686018427387904 - 2 ∧ code.length ≤ 4611686018427387904 ∧ 1 ≤ l.length ∧ l.length ≤ 200) (fun | (code, n, s, l), (n2, s2, x) => n ≤ n2 ∧ n2 ≤ n + 2 ∧ ∃ i : Nat, i < l.length ∧ x = (ix KS.z l (i : Int)).1) (fun | (code, n, s, l), (n2, s2, x) => (.c .s x, [.box 120 [.c (.l KB) code, .c (.i .i64) (n2), .c (.i .u64) (s2)]])) := by
  refine fnEr (n := 12) Go.Proofs.Try.func126 rfl rfl (ent Go.Proofs.Try.func126 (by kernel_rfl) rfl) ?_
  rintro ⟨code, n, s, l⟩ hx
  refine ⟨Le rfl, fun w0 S0 H Z hH => ?_⟩
  try simp only [] at hx
  refine cseq ?_
  refine creg ?_
  refine o1 (asn rfl) ?_
  refine onil ?_
  refine xthn ?_
  refine cseq ?_
  refine creg ?_
  refine o1 (mv rfl) ?_
  refine o1 (mv rfl) ?_
  refine o1 (mv rfl) ?_
  refine ofact (t := 7) rfl fun hl1 => ?_
  refine o1 (lenl rfl li40) ?_
  refine cl c_spec_l1Cur_pick (_, _, _, _) [0] [] (.c rfl (.c (.e rfl)) (.c rfl (.c (.e rfl)) (.n))) (by first | trivial | assumption | omega | (simp only []; omega) | (refine ?_; omega) | (constructor <;> omega) | (refine ⟨?_, ?_⟩ <;> (first | assumption | omega | (simp; omega)))) (by decide) (by decide) (.c rfl rfl (.n)) (fun | (_, _, _) => Le rfl) (.inl rfl) ?_ (.inl rfl)
  rintro ⟨n21, s21, x1⟩ hy1
  try simp only [] at hy1
  refine o1 (ixl rfl rfl li40 rfl (by first | omega | (simp only [List.length_cons, List.length_nil, List.length_append]; omega) | (simp; omega)) (by first | omega | (simp only [List.length_cons, List.length_nil, List.length_append]; omega) | (simp; omega))) ?_
  refine o1 (ldr rfl ti9) ?_
  refine o1 (asn rfl) ?_
  refine onil ?_
  refine xthn ?_
  refine cret ?_
  refine rety2 (_, _, _) (retg (bs := [.c .s _]) (ob' := [.box 120 [.c (.l KB) code, .c (.i .i64) (_), .c (.i .u64) (_)]]) [0] rfl (.t rfl (.n)) (by decide) (hk hH rfl) (.c rfl rfl (.n)) (lc rfl rfl) rfl) ?_
  try simp only []
  obtain ⟨q, hq⟩ : ∃ q : Nat, x1 = (q : Int) := ⟨x1.toNat, by omega⟩
  subst hq
  exact ⟨by omega, by omega, q, by omega, rfl⟩

end Go.Proofs.YtifpekpmnlcmoaaE
