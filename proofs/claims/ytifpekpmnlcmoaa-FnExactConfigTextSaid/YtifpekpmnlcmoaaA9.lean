import Derived.Test.YtifpekpmnlcmoaaProg
import Derived.Test.YtifpekpmnlcmoaaE19
import Derived.Test.YtifpekpmnlcmoaaA8
set_option linter.unusedVariables false
set_option maxRecDepth 100000
namespace Go.Proofs.YtifpekpmnlcmoaaE
open Go Go.RowKit Go.Shelf Go.Proofs
theorem ui3 : (Go.Proofs.Try.prog).underlying 3 = some (.int .i64) := by kernel_rfl
theorem ui162 : (Go.Proofs.Try.prog).underlying 162 = some (.int .u64) := by kernel_rfl

theorem wu64 {n : Int} (h1 : 0 ≤ n) (h2 : n ≤ 18446744073709551615) : IntKind.u64.wrap n = n := by
  simp only [IntKind.wrap, IntKind.bits, IntKind.signed]; simp; omega

theorem c_math_bits_Mul64 : Fe Go.Proofs.Try.prog 172 (ι := Int) (fun n => [.c (.i .u64) 2, .c (.i .u64) n]) (fun _ => []) (fun n => n = 0 ∨ n = 1 ∨ n = 2 ∨ n = 3 ∨ n = 4) (fun n => (.tup [.c (.i .u64) 0, .c (.i .u64) (2 * n)], [])) := by
  refine fnE (n := 51) Go.Proofs.Try.func172 rfl rfl (ent Go.Proofs.Try.func172 (by kernel_rfl) rfl) ?_
  rintro n hx
  refine ⟨Le rfl, fun w0 S0 H Z hH => ?_⟩
  try simp only [] at hx
  refine cseq ?_
  refine creg ?_
  refine o (.inl rfl) (L rfl) (asn rfl) rfl ?_
  refine o (.inl rfl) (L rfl) (asn rfl) rfl ?_
  refine onil ?_
  refine xthn ?_
  refine cseq ?_
  refine creg ?_
  refine o (.inl rfl) (L rfl) (mv rfl) rfl ?_
  refine o (.inl rfl) (L rfl) (ibin rfl rfl rfl) rfl ?_
  refine o (.inl rfl) (L rfl) (asn rfl) rfl ?_
  refine onil ?_
  refine xthn ?_
  refine cseq ?_
  refine creg ?_
  refine o (.inl rfl) (L rfl) (mv rfl) rfl ?_
  first | refine o (.inl rfl) (L rfl) (ishr rfl rfl (by decide)) rfl ?_ | refine o (.inl rfl) (L rfl) (ishr rfl rfl (by first | omega | (simp; omega))) rfl ?_
  refine o (.inl rfl) (L rfl) (asn rfl) rfl ?_
  refine onil ?_
  refine xthn ?_
  refine cseq ?_
  refine creg ?_
  refine o (.inl rfl) (L rfl) (mv rfl) rfl ?_
  refine o (.inl rfl) (L rfl) (ibin rfl rfl rfl) rfl ?_
  refine o (.inl rfl) (L rfl) (asn rfl) rfl ?_
  refine onil ?_
  refine xthn ?_
  refine cseq ?_
  refine creg ?_
  refine o (.inl rfl) (L rfl) (mv rfl) rfl ?_
  first | refine o (.inl rfl) (L rfl) (ishr rfl rfl (by decide)) rfl ?_ | refine o (.inl rfl) (L rfl) (ishr rfl rfl (by first | omega | (simp; omega))) rfl ?_
  refine o (.inl rfl) (L rfl) (asn rfl) rfl ?_
  refine onil ?_
  refine xthn ?_
  refine cseq ?_
  refine creg ?_
  refine o (.inl rfl) (L rfl) (mv rfl) rfl ?_
  refine o (.inl rfl) (L rfl) (mv rfl) rfl ?_
  refine o (.inl rfl) (L rfl) (ibin rfl rfl rfl) rfl ?_
  refine o (.inl rfl) (L rfl) (asn rfl) rfl ?_
  refine onil ?_
  refine xthn ?_
  refine cseq ?_
  refine creg ?_
  refine o (.inl rfl) (L rfl) (mv rfl) rfl ?_
  refine o (.inl rfl) (L rfl) (mv rfl) rfl ?_
  refine o (.inl rfl) (L rfl) (ibin rfl rfl rfl) rfl ?_
  refine o (.inl rfl) (L rfl) (mv rfl) rfl ?_
  first | refine o (.inl rfl) (L rfl) (ishr rfl rfl (by decide)) rfl ?_ | refine o (.inl rfl) (L rfl) (ishr rfl rfl (by first | omega | (simp; omega))) rfl ?_
  refine o (.inl rfl) (L rfl) (ibin rfl rfl rfl) rfl ?_
  refine o (.inl rfl) (L rfl) (asn rfl) rfl ?_
  refine onil ?_
  refine xthn ?_
  refine cseq ?_
  refine creg ?_
  refine o (.inl rfl) (L rfl) (mv rfl) rfl ?_
  refine o (.inl rfl) (L rfl) (ibin rfl rfl rfl) rfl ?_
  refine o (.inl rfl) (L rfl) (asn rfl) rfl ?_
  refine onil ?_
  refine xthn ?_
  refine cseq ?_
  refine creg ?_
  refine o (.inl rfl) (L rfl) (mv rfl) rfl ?_
  first | refine o (.inl rfl) (L rfl) (ishr rfl rfl (by decide)) rfl ?_ | refine o (.inl rfl) (L rfl) (ishr rfl rfl (by first | omega | (simp; omega))) rfl ?_
  refine o (.inl rfl) (L rfl) (asn rfl) rfl ?_
  refine onil ?_
  refine xthn ?_
  refine cseq ?_
  refine creg ?_
  refine o (.inl rfl) (L rfl) (mv rfl) rfl ?_
  refine o (.inl rfl) (L rfl) (mv rfl) rfl ?_
  refine o (.inl rfl) (L rfl) (mv rfl) rfl ?_
  refine o (.inl rfl) (L rfl) (ibin rfl rfl rfl) rfl ?_
  refine o (.inl rfl) (L rfl) (ibin rfl rfl rfl) rfl ?_
  refine o (.inl rfl) (L rfl) (asn rfl) rfl ?_
  refine onil ?_
  refine xthn ?_
  refine cseq ?_
  refine creg ?_
  refine o (.inl rfl) (L rfl) (mv rfl) rfl ?_
  refine o (.inl rfl) (L rfl) (mv rfl) rfl ?_
  refine o (.inl rfl) (L rfl) (ibin rfl rfl rfl) rfl ?_
  refine o (.inl rfl) (L rfl) (mv rfl) rfl ?_
  refine o (.inl rfl) (L rfl) (ibin rfl rfl rfl) rfl ?_
  refine o (.inl rfl) (L rfl) (mv rfl) rfl ?_
  first | refine o (.inl rfl) (L rfl) (ishr rfl rfl (by decide)) rfl ?_ | refine o (.inl rfl) (L rfl) (ishr rfl rfl (by first | omega | (simp; omega))) rfl ?_
  refine o (.inl rfl) (L rfl) (ibin rfl rfl rfl) rfl ?_
  refine o (.inl rfl) (L rfl) (asn rfl) rfl ?_
  refine onil ?_
  refine xthn ?_
  refine cseq ?_
  refine creg ?_
  refine o (.inl rfl) (L rfl) (mv rfl) rfl ?_
  refine o (.inl rfl) (L rfl) (mv rfl) rfl ?_
  refine o (.inl rfl) (L rfl) (ibin rfl rfl rfl) rfl ?_
  refine o (.inl rfl) (L rfl) (asn rfl) rfl ?_
  refine onil ?_
  refine xthn ?_
  refine cret ?_
  refine retd rfl (.t rfl (.t rfl (.n))) (h0 hH) rfl ?_
  rcases hx with rfl | rfl | rfl | rfl | rfl <;> exact re2 (by decide) (by decide)

theorem c_math_bits_Mul : Fe Go.Proofs.Try.prog 152 (ι := Int) (fun n => [.c (.i .u64) 2, .c (.i .u64) n]) (fun _ => []) (fun n => n = 0 ∨ n = 1 ∨ n = 2 ∨ n = 3 ∨ n = 4) (fun n => (.tup [.c (.i .u64) 0, .c (.i .u64) (2 * n)], [])) := by
  refine fnE (n := 30) Go.Proofs.Try.func152 rfl rfl (ent Go.Proofs.Try.func152 (by kernel_rfl) rfl) ?_
  rintro n hx
  refine ⟨Le rfl, fun w0 S0 H Z hH => ?_⟩
  try simp only [] at hx
  refine cseq ?_
  refine creg ?_
  refine o (.inl rfl) (L rfl) (asn rfl) rfl ?_
  refine o (.inl rfl) (L rfl) (asn rfl) rfl ?_
  refine onil ?_
  refine xthn ?_
  refine cseq ?_
  refine ccFc ?_
  refine cskip ?_
  refine xthn ?_
  refine cseq ?_
  refine creg ?_
  refine o (.inl rfl) (L rfl) (mv rfl) rfl ?_
  refine o (.inl rfl) (L rfl) (mv rfl) rfl ?_
  refine ocall c_math_bits_Mul64 _ [] [] (by repeat (first | exact .n | refine .c rfl (.c (.e rfl)) ?_ | refine .c rfl (.c (.o (by decide) rfl)) ?_ | refine .c rfl (.c .n) ?_  | refine .c rfl (.g (by repeat (first | exact .n | refine .c (.e rfl) ?_ | refine .c (.o (by decide) rfl) ?_ | refine .c .n ?_))) ?_)) (by exact hx) (.inl rfl) (by decide) (by decide) (by repeat (first | exact .n | refine .c rfl rfl ?_)) (Le rfl) (.inl rfl) (L rfl) ?_
  refine o (.inl rfl) (L rfl) (mv rfl) rfl ?_
  refine o (.inl rfl) (L rfl) (xtr rfl rfl) rfl ?_
  refine o (.inl rfl) (L rfl) (xtr rfl rfl) rfl ?_
  refine o (.inl rfl) (L rfl) (asn rfl) rfl ?_
  refine o (.inl rfl) (L rfl) (asn rfl) rfl ?_
  refine onil ?_
  refine xthn ?_
  refine cseq ?_
  refine creg ?_
  refine o (.inl rfl) (L rfl) (mv rfl) rfl ?_
  refine o (.inl rfl) (L rfl) (mv rfl) rfl ?_
  refine o (.inl rfl) (L rfl) (asn rfl) rfl ?_
  refine o (.inl rfl) (L rfl) (asn rfl) rfl ?_
  refine onil ?_
  refine xthn ?_
  refine cret ?_
  refine retd rfl (.t rfl (.t rfl (.n))) (h0 hH) rfl ?_
  exact re2 rfl rfl

theorem c_internal_stringslite_HasPrefix : Fe Go.Proofs.Try.prog 173 (ι := List UInt8 × List UInt8) (fun | (s, t) => [.c .s s, .c .s t]) (fun _ => []) (fun | (s, t) => True) (fun | (s, t) => (.c .b (decide (t.length ≤ s.length) && (s.take t.length == t)), [])) := by
  refine fnE (n := 18) Go.Proofs.Try.func173 rfl rfl (ent Go.Proofs.Try.func173 (by kernel_rfl) rfl) ?_
  rintro ⟨s, t⟩ hx
  refine ⟨Le rfl, fun w0 S0 H Z hH => ?_⟩
  try simp only [] at hx
  refine cseq ?_
  refine creg ?_
  refine o (.inl rfl) (L rfl) (asn rfl) rfl ?_
  refine onil ?_
  refine xthn ?_
  refine cseq ?_
  refine creg ?_
  refine o (.inl rfl) (L rfl) (mv rfl) rfl ?_
  first | refine ofact (t := 5) rfl fun hl1 => ?_ | refine ofacts (t := 5) rfl fun hl1 => ?_ | skip
  refine o (.inl rfl) (L rfl) (lens rfl us9) rfl ?_
  refine o (.inl rfl) (L rfl) (mv rfl) rfl ?_
  first | refine ofact (t := 7) rfl fun hl2 => ?_ | refine ofacts (t := 7) rfl fun hl2 => ?_ | skip
  refine o (.inl rfl) (L rfl) (lens rfl us9) rfl ?_
  refine o (.inl rfl) (L rfl) (ibin rfl rfl rfl) rfl ?_
  refine o (.inl rfl) (L rfl) (mv rfl) rfl ?_
  refine ocase (t := 10) rfl (fun c1 => ?_) (fun c1 => ?_)
  · repeat (first | simp only [decide_eq_true_eq] at c1 | simp only [decide_eq_false_iff_not] at c1 | simp only [beq_iff_eq] at c1 | simp only [bne_iff_ne] at c1 | simp only [Bool.not_eq_true'] at c1 | simp only [Bool.not_eq_false'] at c1 | simp only [beq_eq_false_iff_ne] at c1 | simp only [bne_eq_false_iff_eq] at c1 | simp only [Bool.not_not] at c1 | simp only [ne_eq] at c1 | simp only [Int.not_lt] at c1 | simp only [Int.not_le] at c1 | simp only [gt_iff_lt] at c1 | simp only [ge_iff_le] at c1 | simp only [Bool.not_eq_true] at c1 | simp only [Bool.not_eq_false] at c1 | simp only [Decidable.not_not] at c1)
    refine o (.inr ⟨_, _, _, rfl, rfl, rfl⟩) (L rfl) (mv rfl) rfl ?_
    refine o (.inr ⟨_, _, _, rfl, rfl, rfl⟩) (L rfl) (mv rfl) rfl ?_
    first | refine ofact (t := 12) rfl fun hl3 => ?_ | refine ofacts (t := 12) rfl fun hl3 => ?_ | skip
    refine o (.inr ⟨_, _, _, rfl, rfl, rfl⟩) (L rfl) (lens rfl us9) rfl ?_
    refine o (.inr ⟨_, _, _, rfl, rfl, rfl⟩) (L rfl) (cutsh rfl rfl us9 (by first | omega | (simp; omega)) (by first | omega | (simp; omega))) rfl ?_
    refine o (.inr ⟨_, _, _, rfl, rfl, rfl⟩) (L rfl) (mv rfl) rfl ?_
    refine o (.inr ⟨_, _, _, rfl, rfl, rfl⟩) (L rfl) (sbin rfl rfl rfl) rfl ?_
    refine o (.inl rfl) (L rfl) (pickT rfl rfl) rfl ?_
    refine o (.inl rfl) (L rfl) (asn rfl) rfl ?_
    refine onil ?_
    refine xthn ?_
    refine cret ?_
    refine retd rfl (.t rfl (.n)) (h0 hH) rfl ?_
    refine re ?_
    rw [decide_eq_true (by omega), Bool.true_and]; rfl
  · repeat (first | simp only [decide_eq_true_eq] at c1 | simp only [decide_eq_false_iff_not] at c1 | simp only [beq_iff_eq] at c1 | simp only [bne_iff_ne] at c1 | simp only [Bool.not_eq_true'] at c1 | simp only [Bool.not_eq_false'] at c1 | simp only [beq_eq_false_iff_ne] at c1 | simp only [bne_eq_false_iff_eq] at c1 | simp only [Bool.not_not] at c1 | simp only [ne_eq] at c1 | simp only [Int.not_lt] at c1 | simp only [Int.not_le] at c1 | simp only [gt_iff_lt] at c1 | simp only [ge_iff_le] at c1 | simp only [Bool.not_eq_true] at c1 | simp only [Bool.not_eq_false] at c1 | simp only [Decidable.not_not] at c1)
    refine oskip rfl rfl rfl rfl rfl (L rfl) ?_
    refine oskip rfl rfl rfl rfl rfl (L rfl) ?_
    refine oskip rfl rfl rfl rfl rfl (L rfl) ?_
    refine oskip rfl rfl rfl rfl rfl (L rfl) ?_
    refine oskip rfl rfl rfl rfl rfl (L rfl) ?_
    refine oskip rfl rfl rfl rfl rfl (L rfl) ?_
    refine o (.inl rfl) (L rfl) (pickF rfl rfl) rfl ?_
    refine o (.inl rfl) (L rfl) (asn rfl) rfl ?_
    refine onil ?_
    refine xthn ?_
    refine cret ?_
    refine retd rfl (.t rfl (.n)) (h0 hH) rfl ?_
    refine re ?_
    rw [decide_eq_false (by omega), Bool.false_and]

theorem c_strings_HasPrefix : Fe Go.Proofs.Try.prog 153 (ι := List UInt8 × List UInt8) (fun | (s, t) => [.c .s s, .c .s t]) (fun _ => []) (fun | (s, t) => True) (fun | (s, t) => (.c .b (decide (t.length ≤ s.length) && (s.take t.length == t)), [])) := by
  refine fnE (n := 8) Go.Proofs.Try.func153 rfl rfl (ent Go.Proofs.Try.func153 (by kernel_rfl) rfl) ?_
  rintro ⟨s, t⟩ hx
  refine ⟨Le rfl, fun w0 S0 H Z hH => ?_⟩
  try simp only [] at hx
  refine cseq ?_
  refine creg ?_
  refine o (.inl rfl) (L rfl) (asn rfl) rfl ?_
  refine onil ?_
  refine xthn ?_
  refine cseq ?_
  refine creg ?_
  refine o (.inl rfl) (L rfl) (mv rfl) rfl ?_
  refine o (.inl rfl) (L rfl) (mv rfl) rfl ?_
  refine ocall c_internal_stringslite_HasPrefix (_, _) [] [] (by repeat (first | exact .n | refine .c rfl (.c (.e rfl)) ?_ | refine .c rfl (.c (.o (by decide) rfl)) ?_ | refine .c rfl (.c .n) ?_  | refine .c rfl (.g (by repeat (first | exact .n | refine .c (.e rfl) ?_ | refine .c (.o (by decide) rfl) ?_ | refine .c .n ?_))) ?_)) (by first | trivial | (refine ?_; omega) | (simp only []; omega) | (constructor <;> omega) | assumption) (.inl rfl) (by decide) (by decide) (by repeat (first | exact .n | refine .c rfl rfl ?_)) (Le rfl) (.inl rfl) (L rfl) ?_
  refine o (.inl rfl) (L rfl) (asn rfl) rfl ?_
  refine onil ?_
  refine xthn ?_
  refine cret ?_
  refine retd rfl (.t rfl (.n)) (h0 hH) rfl ?_
  refine re ?_
  rfl

theorem c_strings_Repeat_blanks : Fe Go.Proofs.Try.prog 115 (ι := Int) (fun n => [.c .s [32, 32], .c (.i .i64) n]) (fun _ => []) (fun n => n = 0 ∨ n = 1 ∨ n = 2 ∨ n = 3 ∨ n = 4) (fun n => (.c .s (blanks n.toNat), [])) := by
  refine fnE (n := 125) Go.Proofs.Try.func115 rfl rfl (ent Go.Proofs.Try.func115 (by kernel_rfl) rfl) ?_
  rintro n hx
  refine ⟨Le rfl, fun w0 S0 H Z hH => ?_⟩
  try simp only [] at hx
  refine cseq ?_
  refine creg ?_
  refine o (.inl rfl) (L rfl) (asn rfl) rfl ?_
  refine onil ?_
  refine xthn ?_
  refine cseq ?_
  refine cseq ?_
  refine creg ?_
  refine o (.inl rfl) (L rfl) (mv rfl) rfl ?_
  refine onil ?_
  refine xthn ?_
  refine cblock ?_
  refine cseq ?_
  refine creg ?_
  refine o (.inl rfl) (L rfl) (ibin rfl rfl rfl) rfl ?_
  refine o (.inl rfl) (L rfl) (asn rfl) rfl ?_
  refine onil ?_
  refine xthn ?_
  refine ccond rfl (fun c1 => ?_) (fun c1 => ?_)
  · repeat (first | simp only [decide_eq_true_eq] at c1 | simp only [decide_eq_false_iff_not] at c1 | simp only [beq_iff_eq] at c1 | simp only [bne_iff_ne] at c1 | simp only [Bool.not_eq_true'] at c1 | simp only [Bool.not_eq_false'] at c1 | simp only [beq_eq_false_iff_ne] at c1 | simp only [bne_eq_false_iff_eq] at c1 | simp only [Bool.not_not] at c1 | simp only [ne_eq] at c1 | simp only [Int.not_lt] at c1 | simp only [Int.not_le] at c1 | simp only [gt_iff_lt] at c1 | simp only [ge_iff_le] at c1 | simp only [Bool.not_eq_true] at c1 | simp only [Bool.not_eq_false] at c1 | simp only [Decidable.not_not] at c1)
    refine cseq ?_
    refine creg ?_
    refine o (.inl rfl) (L rfl) (asn rfl) rfl ?_
    refine onil ?_
    refine xthn ?_
    refine cret ?_
    refine xbr ?_
    refine xthr ?_
    refine retd rfl (.t rfl (.n)) (h0 hH) rfl ?_
    refine re ?_
    first | (subst c1; rfl) | (subst c2; rfl) | (rcases hx with rfl | rfl | rfl | rfl | rfl <;> rfl)
  · repeat (first | simp only [decide_eq_true_eq] at c1 | simp only [decide_eq_false_iff_not] at c1 | simp only [beq_iff_eq] at c1 | simp only [bne_iff_ne] at c1 | simp only [Bool.not_eq_true'] at c1 | simp only [Bool.not_eq_false'] at c1 | simp only [beq_eq_false_iff_ne] at c1 | simp only [bne_eq_false_iff_eq] at c1 | simp only [Bool.not_not] at c1 | simp only [ne_eq] at c1 | simp only [Int.not_lt] at c1 | simp only [Int.not_le] at c1 | simp only [gt_iff_lt] at c1 | simp only [ge_iff_le] at c1 | simp only [Bool.not_eq_true] at c1 | simp only [Bool.not_eq_false] at c1 | simp only [Decidable.not_not] at c1)
    refine cseq ?_
    refine creg ?_
    refine o (.inl rfl) (L rfl) (ibin rfl rfl rfl) rfl ?_
    refine o (.inl rfl) (L rfl) (asn rfl) rfl ?_
    refine onil ?_
    refine xthn ?_
    refine ccond rfl (fun c2 => ?_) (fun c2 => ?_)
    · repeat (first | simp only [decide_eq_true_eq] at c2 | simp only [decide_eq_false_iff_not] at c2 | simp only [beq_iff_eq] at c2 | simp only [bne_iff_ne] at c2 | simp only [Bool.not_eq_true'] at c2 | simp only [Bool.not_eq_false'] at c2 | simp only [beq_eq_false_iff_ne] at c2 | simp only [bne_eq_false_iff_eq] at c2 | simp only [Bool.not_not] at c2 | simp only [ne_eq] at c2 | simp only [Int.not_lt] at c2 | simp only [Int.not_le] at c2 | simp only [gt_iff_lt] at c2 | simp only [ge_iff_le] at c2 | simp only [Bool.not_eq_true] at c2 | simp only [Bool.not_eq_false] at c2 | simp only [Decidable.not_not] at c2)
      refine cseq ?_
      refine creg ?_
      refine o (.inl rfl) (L rfl) (mv rfl) rfl ?_
      refine o (.inl rfl) (L rfl) (asn rfl) rfl ?_
      refine onil ?_
      refine xthn ?_
      refine cret ?_
      refine xbr ?_
      refine xthr ?_
      refine retd rfl (.t rfl (.n)) (h0 hH) rfl ?_
      refine re ?_
      first | (subst c1; rfl) | (subst c2; rfl) | (rcases hx with rfl | rfl | rfl | rfl | rfl <;> rfl)
    · repeat (first | simp only [decide_eq_true_eq] at c2 | simp only [decide_eq_false_iff_not] at c2 | simp only [beq_iff_eq] at c2 | simp only [bne_iff_ne] at c2 | simp only [Bool.not_eq_true'] at c2 | simp only [Bool.not_eq_false'] at c2 | simp only [beq_eq_false_iff_ne] at c2 | simp only [bne_eq_false_iff_eq] at c2 | simp only [Bool.not_not] at c2 | simp only [ne_eq] at c2 | simp only [Int.not_lt] at c2 | simp only [Int.not_le] at c2 | simp only [gt_iff_lt] at c2 | simp only [ge_iff_le] at c2 | simp only [Bool.not_eq_true] at c2 | simp only [Bool.not_eq_false] at c2 | simp only [Decidable.not_not] at c2)
      refine cskip ?_
      refine xbn ?_
      refine xthn ?_
      refine cseq ?_
      refine cseq ?_
      refine creg ?_
      refine o (.inl rfl) (L rfl) (mv rfl) rfl ?_
      refine o (.inl rfl) (L rfl) (ibin rfl rfl rfl) rfl ?_
      refine onil ?_
      refine xthn ?_
      refine ccond rfl (fun c3 => ?_) (fun c3 => ?_)
      · repeat (first | simp only [decide_eq_true_eq] at c3 | simp only [decide_eq_false_iff_not] at c3 | simp only [beq_iff_eq] at c3 | simp only [bne_iff_ne] at c3 | simp only [Bool.not_eq_true'] at c3 | simp only [Bool.not_eq_false'] at c3 | simp only [beq_eq_false_iff_ne] at c3 | simp only [bne_eq_false_iff_eq] at c3 | simp only [Bool.not_not] at c3 | simp only [ne_eq] at c3 | simp only [Int.not_lt] at c3 | simp only [Int.not_le] at c3 | simp only [gt_iff_lt] at c3 | simp only [ge_iff_le] at c3 | simp only [Bool.not_eq_true] at c3 | simp only [Bool.not_eq_false] at c3 | simp only [Decidable.not_not] at c3)
        all_goals first | (exact absurd rfl c3) | (exact absurd c3 (by decide)) | omega | (rw [w64 (by omega) (by omega)] at c3; omega) | (simp_all; done)
      · repeat (first | simp only [decide_eq_true_eq] at c3 | simp only [decide_eq_false_iff_not] at c3 | simp only [beq_iff_eq] at c3 | simp only [bne_iff_ne] at c3 | simp only [Bool.not_eq_true'] at c3 | simp only [Bool.not_eq_false'] at c3 | simp only [beq_eq_false_iff_ne] at c3 | simp only [bne_eq_false_iff_eq] at c3 | simp only [Bool.not_not] at c3 | simp only [ne_eq] at c3 | simp only [Int.not_lt] at c3 | simp only [Int.not_le] at c3 | simp only [gt_iff_lt] at c3 | simp only [ge_iff_le] at c3 | simp only [Bool.not_eq_true] at c3 | simp only [Bool.not_eq_false] at c3 | simp only [Decidable.not_not] at c3)
        refine cskip ?_
        refine xthn ?_
        refine cseq ?_
        refine creg ?_
        refine o (.inl rfl) (L rfl) (mv rfl) rfl ?_
        first | refine ofact (t := 21) rfl fun hl1 => ?_ | refine ofacts (t := 21) rfl fun hl1 => ?_ | skip
        refine o (.inl rfl) (L rfl) (lens rfl us9) rfl ?_
        refine o (.inl rfl) (L rfl) (cvi rfl ui3 ui162) rfl ?_
        refine o (.inl rfl) (L rfl) (mv rfl) rfl ?_
        refine o (.inl rfl) (L rfl) (cvi rfl ui3 ui162) rfl ?_
        refine ocall c_math_bits_Mul n [] [] (by repeat (first | exact .n | refine .c rfl (.c (.e rfl)) ?_ | refine .c rfl (.c (.o (by decide) rfl)) ?_ | refine .c rfl (.c .n) ?_  | refine .c rfl (.c (.e (by exact tqi (wu64 (by omega) (by omega))))) ?_ | refine .c rfl (.g (by repeat (first | exact .n | refine .c (.e rfl) ?_ | refine .c (.o (by decide) rfl) ?_ | refine .c .n ?_))) ?_)) (by exact hx) (.inl rfl) (by decide) (by decide) (by repeat (first | exact .n | refine .c rfl rfl ?_)) (Le rfl) (.inl rfl) (L rfl) ?_
        refine o (.inl rfl) (L rfl) (mv rfl) rfl ?_
        refine o (.inl rfl) (L rfl) (xtr rfl rfl) rfl ?_
        refine o (.inl rfl) (L rfl) (xtr rfl rfl) rfl ?_
        refine o (.inl rfl) (L rfl) (asn rfl) rfl ?_
        refine o (.inl rfl) (L rfl) (asn rfl) rfl ?_
        refine onil ?_
        refine xthn ?_
        refine cseq ?_
        refine cseq ?_
        refine creg ?_
        refine o (.inl rfl) (L rfl) (mv rfl) rfl ?_
        refine o (.inl rfl) (L rfl) (ibin rfl rfl rfl) rfl ?_
        refine o (.inl rfl) (L rfl) (mv rfl) rfl ?_
        refine ocase (t := 31) rfl (fun c4 => ?_) (fun c4 => ?_)
        · repeat (first | simp only [decide_eq_true_eq] at c4 | simp only [decide_eq_false_iff_not] at c4 | simp only [beq_iff_eq] at c4 | simp only [bne_iff_ne] at c4 | simp only [Bool.not_eq_true'] at c4 | simp only [Bool.not_eq_false'] at c4 | simp only [beq_eq_false_iff_ne] at c4 | simp only [bne_eq_false_iff_eq] at c4 | simp only [Bool.not_not] at c4 | simp only [ne_eq] at c4 | simp only [Int.not_lt] at c4 | simp only [Int.not_le] at c4 | simp only [gt_iff_lt] at c4 | simp only [ge_iff_le] at c4 | simp only [Bool.not_eq_true] at c4 | simp only [Bool.not_eq_false] at c4 | simp only [Decidable.not_not] at c4)
          all_goals first | (exact absurd rfl c4) | (exact absurd c4 (by decide)) | omega | (rw [w64 (by omega) (by omega)] at c4; omega) | (simp_all; done)
        · repeat (first | simp only [decide_eq_true_eq] at c4 | simp only [decide_eq_false_iff_not] at c4 | simp only [beq_iff_eq] at c4 | simp only [bne_iff_ne] at c4 | simp only [Bool.not_eq_true'] at c4 | simp only [Bool.not_eq_false'] at c4 | simp only [beq_eq_false_iff_ne] at c4 | simp only [bne_eq_false_iff_eq] at c4 | simp only [Bool.not_not] at c4 | simp only [ne_eq] at c4 | simp only [Int.not_lt] at c4 | simp only [Int.not_le] at c4 | simp only [gt_iff_lt] at c4 | simp only [ge_iff_le] at c4 | simp only [Bool.not_eq_true] at c4 | simp only [Bool.not_eq_false] at c4 | simp only [Decidable.not_not] at c4)
          refine o (.inr ⟨_, _, _, rfl, rfl, rfl⟩) (L rfl) (mv rfl) rfl ?_
          refine o (.inr ⟨_, _, _, rfl, rfl, rfl⟩) (L rfl) (ibin rfl rfl rfl) rfl ?_
          refine o (.inl rfl) (L rfl) (pickF rfl rfl) rfl ?_
          refine onil ?_
          refine xthn ?_
          refine ccond rfl (fun c5 => ?_) (fun c5 => ?_)
          · repeat (first | simp only [decide_eq_true_eq] at c5 | simp only [decide_eq_false_iff_not] at c5 | simp only [beq_iff_eq] at c5 | simp only [bne_iff_ne] at c5 | simp only [Bool.not_eq_true'] at c5 | simp only [Bool.not_eq_false'] at c5 | simp only [beq_eq_false_iff_ne] at c5 | simp only [bne_eq_false_iff_eq] at c5 | simp only [Bool.not_not] at c5 | simp only [ne_eq] at c5 | simp only [Int.not_lt] at c5 | simp only [Int.not_le] at c5 | simp only [gt_iff_lt] at c5 | simp only [ge_iff_le] at c5 | simp only [Bool.not_eq_true] at c5 | simp only [Bool.not_eq_false] at c5 | simp only [Decidable.not_not] at c5)
            all_goals first | (exact absurd rfl c5) | (exact absurd c5 (by decide)) | omega | (rw [w64 (by omega) (by omega)] at c5; omega) | (simp_all; done)
          · repeat (first | simp only [decide_eq_true_eq] at c5 | simp only [decide_eq_false_iff_not] at c5 | simp only [beq_iff_eq] at c5 | simp only [bne_iff_ne] at c5 | simp only [Bool.not_eq_true'] at c5 | simp only [Bool.not_eq_false'] at c5 | simp only [beq_eq_false_iff_ne] at c5 | simp only [bne_eq_false_iff_eq] at c5 | simp only [Bool.not_not] at c5 | simp only [ne_eq] at c5 | simp only [Int.not_lt] at c5 | simp only [Int.not_le] at c5 | simp only [gt_iff_lt] at c5 | simp only [ge_iff_le] at c5 | simp only [Bool.not_eq_true] at c5 | simp only [Bool.not_eq_false] at c5 | simp only [Decidable.not_not] at c5)
            refine cskip ?_
            refine xthn ?_
            refine cseq ?_
            refine creg ?_
            refine o (.inl rfl) (L rfl) (mv rfl) rfl ?_
            refine o (.inl rfl) (L rfl) (cvi rfl ui162 ui3) rfl ?_
            refine o (.inl rfl) (L rfl) (asn rfl) rfl ?_
            refine onil ?_
            refine xthn ?_
            refine cseq ?_
            refine cseq ?_
            refine creg ?_
            refine o (.inl rfl) (L rfl) (mv rfl) rfl ?_
            first | refine ofact (t := 38) rfl fun hl2 => ?_ | refine ofacts (t := 38) rfl fun hl2 => ?_ | skip
            refine o (.inl rfl) (L rfl) (lens rfl us9) rfl ?_
            refine o (.inl rfl) (L rfl) (ibin rfl rfl rfl) rfl ?_
            refine onil ?_
            refine xthn ?_
            refine ccond rfl (fun c6 => ?_) (fun c6 => ?_)
            · repeat (first | simp only [decide_eq_true_eq] at c6 | simp only [decide_eq_false_iff_not] at c6 | simp only [beq_iff_eq] at c6 | simp only [bne_iff_ne] at c6 | simp only [Bool.not_eq_true'] at c6 | simp only [Bool.not_eq_false'] at c6 | simp only [beq_eq_false_iff_ne] at c6 | simp only [bne_eq_false_iff_eq] at c6 | simp only [Bool.not_not] at c6 | simp only [ne_eq] at c6 | simp only [Int.not_lt] at c6 | simp only [Int.not_le] at c6 | simp only [gt_iff_lt] at c6 | simp only [ge_iff_le] at c6 | simp only [Bool.not_eq_true] at c6 | simp only [Bool.not_eq_false] at c6 | simp only [Decidable.not_not] at c6)
              all_goals first | (exact absurd rfl c6) | (exact absurd c6 (by decide)) | omega | (rw [w64 (by omega) (by omega)] at c6; omega) | (simp_all; done)
            · repeat (first | simp only [decide_eq_true_eq] at c6 | simp only [decide_eq_false_iff_not] at c6 | simp only [beq_iff_eq] at c6 | simp only [bne_iff_ne] at c6 | simp only [Bool.not_eq_true'] at c6 | simp only [Bool.not_eq_false'] at c6 | simp only [beq_eq_false_iff_ne] at c6 | simp only [bne_eq_false_iff_eq] at c6 | simp only [Bool.not_not] at c6 | simp only [ne_eq] at c6 | simp only [Int.not_lt] at c6 | simp only [Int.not_le] at c6 | simp only [gt_iff_lt] at c6 | simp only [ge_iff_le] at c6 | simp only [Bool.not_eq_true] at c6 | simp only [Bool.not_eq_false] at c6 | simp only [Decidable.not_not] at c6)
              refine cskip ?_
              refine xthn ?_
              refine cseq ?_
              refine cseq ?_
              refine creg ?_
              refine o (.inl rfl) (L rfl) (mv rfl) rfl ?_
              refine o (.inl rfl) (L rfl) (ixs rfl rfl us9 (by first | omega | (simp; omega) | (rw [w64 (by omega) (by omega)]; omega)) (by first | omega | (simp; omega) | (rw [w64 (by omega) (by omega)]; omega))) rfl ?_
              refine onil ?_
              refine xthn ?_
              refine cblock ?_
              refine cseq ?_
              refine cseq ?_
              refine creg ?_
              refine o (.inl rfl) (L rfl) (ibin rfl rfl rfl) rfl ?_
              refine o (.inl rfl) (L rfl) (asn rfl) rfl ?_
              refine onil ?_
              refine xthn ?_
              refine ccond rfl (fun c7 => ?_) (fun c7 => ?_)
              · repeat (first | simp only [decide_eq_true_eq] at c7 | simp only [decide_eq_false_iff_not] at c7 | simp only [beq_iff_eq] at c7 | simp only [bne_iff_ne] at c7 | simp only [Bool.not_eq_true'] at c7 | simp only [Bool.not_eq_false'] at c7 | simp only [beq_eq_false_iff_ne] at c7 | simp only [bne_eq_false_iff_eq] at c7 | simp only [Bool.not_not] at c7 | simp only [ne_eq] at c7 | simp only [Int.not_lt] at c7 | simp only [Int.not_le] at c7 | simp only [gt_iff_lt] at c7 | simp only [ge_iff_le] at c7 | simp only [Bool.not_eq_true] at c7 | simp only [Bool.not_eq_false] at c7 | simp only [Decidable.not_not] at c7)
                refine cskip ?_
                refine xthn ?_
                refine ccond rfl (fun c8 => ?_) (fun c8 => ?_)
                · repeat (first | simp only [decide_eq_true_eq] at c8 | simp only [decide_eq_false_iff_not] at c8 | simp only [beq_iff_eq] at c8 | simp only [bne_iff_ne] at c8 | simp only [Bool.not_eq_true'] at c8 | simp only [Bool.not_eq_false'] at c8 | simp only [beq_eq_false_iff_ne] at c8 | simp only [bne_eq_false_iff_eq] at c8 | simp only [Bool.not_not] at c8 | simp only [ne_eq] at c8 | simp only [Int.not_lt] at c8 | simp only [Int.not_le] at c8 | simp only [gt_iff_lt] at c8 | simp only [ge_iff_le] at c8 | simp only [Bool.not_eq_true] at c8 | simp only [Bool.not_eq_false] at c8 | simp only [Decidable.not_not] at c8)
                  refine cblock ?_
                  refine cseq ?_
                  refine creg ?_
                  refine o (.inl rfl) (L rfl) (mv rfl) rfl ?_
                  refine o (.inl rfl) (L rfl) (ibin rfl rfl rfl) rfl ?_
                  refine o (.inl rfl) (L rfl) (mv rfl) rfl ?_
                  refine ocase (t := 52) rfl (fun c9 => ?_) (fun c9 => ?_)
                  · repeat (first | simp only [decide_eq_true_eq] at c9 | simp only [decide_eq_false_iff_not] at c9 | simp only [beq_iff_eq] at c9 | simp only [bne_iff_ne] at c9 | simp only [Bool.not_eq_true'] at c9 | simp only [Bool.not_eq_false'] at c9 | simp only [beq_eq_false_iff_ne] at c9 | simp only [bne_eq_false_iff_eq] at c9 | simp only [Bool.not_not] at c9 | simp only [ne_eq] at c9 | simp only [Int.not_lt] at c9 | simp only [Int.not_le] at c9 | simp only [gt_iff_lt] at c9 | simp only [ge_iff_le] at c9 | simp only [Bool.not_eq_true] at c9 | simp only [Bool.not_eq_false] at c9 | simp only [Decidable.not_not] at c9)
                    refine o (.inr ⟨_, _, _, rfl, rfl, rfl⟩) (L rfl) (mv rfl) rfl ?_
                    refine ocall c_strings_HasPrefix (_, _) [] [] (by repeat (first | exact .n | refine .c rfl (.c (.e rfl)) ?_ | refine .c rfl (.c (.o (by decide) rfl)) ?_ | refine .c rfl (.c .n) ?_  | refine .c rfl (.g (by repeat (first | exact .n | refine .c (.e rfl) ?_ | refine .c (.o (by decide) rfl) ?_ | refine .c .n ?_))) ?_)) (by first | trivial | (refine ?_; omega) | (simp only []; omega) | (constructor <;> omega) | assumption) (.inr ⟨_, _, _, rfl, rfl, rfl⟩) (by decide) (by decide) (by repeat (first | exact .n | refine .c rfl rfl ?_)) (Le rfl) (.inl rfl) (L rfl) ?_
                    refine o (.inl rfl) (L rfl) (pickT rfl rfl) rfl ?_
                    refine o (.inl rfl) (L rfl) (asn rfl) rfl ?_
                    refine onil ?_
                    refine xthn ?_
                    refine ccond rfl (fun c10 => ?_) (fun c10 => ?_)
                    · repeat (first | simp only [decide_eq_true_eq] at c10 | simp only [decide_eq_false_iff_not] at c10 | simp only [beq_iff_eq] at c10 | simp only [bne_iff_ne] at c10 | simp only [Bool.not_eq_true'] at c10 | simp only [Bool.not_eq_false'] at c10 | simp only [beq_eq_false_iff_ne] at c10 | simp only [bne_eq_false_iff_eq] at c10 | simp only [Bool.not_not] at c10 | simp only [ne_eq] at c10 | simp only [Int.not_lt] at c10 | simp only [Int.not_le] at c10 | simp only [gt_iff_lt] at c10 | simp only [ge_iff_le] at c10 | simp only [Bool.not_eq_true] at c10 | simp only [Bool.not_eq_false] at c10 | simp only [Decidable.not_not] at c10)
                      refine cseq ?_
                      refine creg ?_
                      refine o (.inl rfl) (L rfl) (mv rfl) rfl ?_
                      refine o (.inl rfl) (L rfl) (cutsh rfl rfl us9 (by first | omega | (simp; omega) | (rw [w64 (by omega) (by omega)]; omega)) (by first | omega | (simp; omega) | (rw [w64 (by omega) (by omega)]; omega))) rfl ?_
                      refine o (.inl rfl) (L rfl) (asn rfl) rfl ?_
                      refine onil ?_
                      refine xthn ?_
                      refine cret ?_
                      refine xbr ?_
                      refine xbr ?_
                      refine xthr ?_
                      refine retd rfl (.t rfl (.n)) (h0 hH) rfl ?_
                      refine re ?_
                      first | (subst c1; rfl) | (subst c2; rfl) | (rcases hx with rfl | rfl | rfl | rfl | rfl <;> rfl)
                    · repeat (first | simp only [decide_eq_true_eq] at c10 | simp only [decide_eq_false_iff_not] at c10 | simp only [beq_iff_eq] at c10 | simp only [bne_iff_ne] at c10 | simp only [Bool.not_eq_true'] at c10 | simp only [Bool.not_eq_false'] at c10 | simp only [beq_eq_false_iff_ne] at c10 | simp only [bne_eq_false_iff_eq] at c10 | simp only [Bool.not_not] at c10 | simp only [ne_eq] at c10 | simp only [Int.not_lt] at c10 | simp only [Int.not_le] at c10 | simp only [gt_iff_lt] at c10 | simp only [ge_iff_le] at c10 | simp only [Bool.not_eq_true] at c10 | simp only [Bool.not_eq_false] at c10 | simp only [Decidable.not_not] at c10)
                      all_goals first | (exact absurd rfl c10) | (exact absurd c10 (by decide)) | omega | (rw [w64 (by omega) (by omega)] at c10; omega) | (simp_all; done)
                  · repeat (first | simp only [decide_eq_true_eq] at c9 | simp only [decide_eq_false_iff_not] at c9 | simp only [beq_iff_eq] at c9 | simp only [bne_iff_ne] at c9 | simp only [Bool.not_eq_true'] at c9 | simp only [Bool.not_eq_false'] at c9 | simp only [beq_eq_false_iff_ne] at c9 | simp only [bne_eq_false_iff_eq] at c9 | simp only [Bool.not_not] at c9 | simp only [ne_eq] at c9 | simp only [Int.not_lt] at c9 | simp only [Int.not_le] at c9 | simp only [gt_iff_lt] at c9 | simp only [ge_iff_le] at c9 | simp only [Bool.not_eq_true] at c9 | simp only [Bool.not_eq_false] at c9 | simp only [Decidable.not_not] at c9)
                    all_goals first | (exact absurd rfl c9) | (exact absurd c9 (by decide)) | omega | (rw [w64 (by omega) (by omega)] at c9; omega) | (simp_all; done)
                · repeat (first | simp only [decide_eq_true_eq] at c8 | simp only [decide_eq_false_iff_not] at c8 | simp only [beq_iff_eq] at c8 | simp only [bne_iff_ne] at c8 | simp only [Bool.not_eq_true'] at c8 | simp only [Bool.not_eq_false'] at c8 | simp only [beq_eq_false_iff_ne] at c8 | simp only [bne_eq_false_iff_eq] at c8 | simp only [Bool.not_not] at c8 | simp only [ne_eq] at c8 | simp only [Int.not_lt] at c8 | simp only [Int.not_le] at c8 | simp only [gt_iff_lt] at c8 | simp only [ge_iff_le] at c8 | simp only [Bool.not_eq_true] at c8 | simp only [Bool.not_eq_false] at c8 | simp only [Decidable.not_not] at c8)
                  all_goals first | (exact absurd rfl c8) | (exact absurd c8 (by decide)) | omega | (rw [w64 (by omega) (by omega)] at c8; omega) | (simp_all; done)
              · repeat (first | simp only [decide_eq_true_eq] at c7 | simp only [decide_eq_false_iff_not] at c7 | simp only [beq_iff_eq] at c7 | simp only [bne_iff_ne] at c7 | simp only [Bool.not_eq_true'] at c7 | simp only [Bool.not_eq_false'] at c7 | simp only [beq_eq_false_iff_ne] at c7 | simp only [bne_eq_false_iff_eq] at c7 | simp only [Bool.not_not] at c7 | simp only [ne_eq] at c7 | simp only [Int.not_lt] at c7 | simp only [Int.not_le] at c7 | simp only [gt_iff_lt] at c7 | simp only [ge_iff_le] at c7 | simp only [Bool.not_eq_true] at c7 | simp only [Bool.not_eq_false] at c7 | simp only [Decidable.not_not] at c7)
                all_goals first | (exact absurd rfl c7) | (exact absurd c7 (by decide)) | omega | (rw [w64 (by omega) (by omega)] at c7; omega) | (simp_all; done)

end Go.Proofs.YtifpekpmnlcmoaaE
