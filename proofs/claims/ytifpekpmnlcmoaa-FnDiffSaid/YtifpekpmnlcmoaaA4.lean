import Derived.Test.YtifpekpmnlcmoaaProg
import Derived.Test.YtifpekpmnlcmoaaE19
import Derived.Test.YtifpekpmnlcmoaaA3
set_option linter.unusedVariables false
set_option linter.unusedSimpArgs false
set_option maxRecDepth 100000
namespace Go.Proofs.YtifpekpmnlcmoaaE
open Go Go.RowKit Go.Shelf Go.Proofs

def wb (x : Int) : Bool := decide ((97 ≤ x ∧ x ≤ 122) ∨ (48 ≤ x ∧ x ≤ 57) ∨ x = 45)
def word (s : List UInt8) : Bool := s.all (fun b => wb b.toNat) && decide (1 ≤ s.length ∧ s.length ≤ 8)
def path (p : StrS) : Bool := p.all (fun w => word w.1) && decide (1 ≤ p.length ∧ p.length ≤ 5)
theorem all_step {α : Type} {z : α} {xs : List α} {i : Nat} {p : α → Bool} (h : i < xs.length) : (xs.take (i + 1)).all p = ((xs.take i).all p && p (ix z xs i)) := by
  rw [take_ix (z := z) h]; simp
theorem all_no {α : Type} {z : α} {xs : List α} {i : Nat} {p : α → Bool} (h : i < xs.length) (hp : p (ix z xs i) = false) : xs.all p = false := by
  rw [List.all_eq_false]
  exact ⟨_, ix_mem (z := z) h, by simp [hp]⟩

theorem c_spec_l1In : Fe Go.Proofs.Try.prog 137 (ι := Int × Int × Int) (fun | (n, lo, hi) => [.c (.i .i64) n, .c (.i .i64) lo, .c (.i .i64) hi]) (fun _ => []) (fun | (n, lo, hi) => True) (fun | (n, lo, hi) => (.c .b (decide (lo ≤ n ∧ n ≤ hi)), [])) := by
  refine fnE (n := 15) Go.Proofs.Try.func137 rfl rfl (ent Go.Proofs.Try.func137 (by kernel_rfl) rfl) ?_
  rintro ⟨n, lo, hi⟩ hx
  refine ⟨Le rfl, fun w0 S0 H Z hH => ?_⟩
  try simp only [] at hx
  refine cseq ?_
  refine creg ?_
  refine o (.inl rfl) (L rfl) (asn rfl) rfl ?_
  refine onil ?_
  refine xthn ?_
  refine cseq ?_
  refine creg ?_
  refine o (.inl rfl) (L rfl) (mv rfl) rfl ?_
  refine o (.inl rfl) (L rfl) (mv rfl) rfl ?_
  refine o (.inl rfl) (L rfl) (ibin rfl rfl rfl) rfl ?_
  refine o (.inl rfl) (L rfl) (mv rfl) rfl ?_
  refine ocase (t := 10) rfl (fun c1 => ?_) (fun c1 => ?_)
  · try simp only [q1, q2, q3, q4, q5, q6, q7, q8, q9, q10, q11, q12, q13, q14, q15, q16, q17] at c1
    refine o (.inr ⟨_, _, _, rfl, rfl, rfl⟩) (L rfl) (mv rfl) rfl ?_
    refine o (.inr ⟨_, _, _, rfl, rfl, rfl⟩) (L rfl) (mv rfl) rfl ?_
    refine o (.inr ⟨_, _, _, rfl, rfl, rfl⟩) (L rfl) (ibin rfl rfl rfl) rfl ?_
    refine o (.inl rfl) (L rfl) (pickT rfl rfl) rfl ?_
    refine o (.inl rfl) (L rfl) (asn rfl) rfl ?_
    refine onil ?_
    refine xthn ?_
    refine cret ?_
    refine retd rfl (.t rfl (.n)) (h0 hH) rfl ?_
    refine re ?_
    simp [c1]
  · try simp only [q1, q2, q3, q4, q5, q6, q7, q8, q9, q10, q11, q12, q13, q14, q15, q16, q17] at c1
    refine oskip rfl rfl rfl rfl rfl (L rfl) ?_
    refine oskip rfl rfl rfl rfl rfl (L rfl) ?_
    refine oskip rfl rfl rfl rfl rfl (L rfl) ?_
    refine o (.inl rfl) (L rfl) (pickF rfl rfl) rfl ?_
    refine o (.inl rfl) (L rfl) (asn rfl) rfl ?_
    refine onil ?_
    refine xthn ?_
    refine cret ?_
    refine retd rfl (.t rfl (.n)) (h0 hH) rfl ?_
    refine re ?_
    simp; omega

theorem c_spec_l15Byte : Fe Go.Proofs.Try.prog 138 (ι := Int) (fun x => [.c (.i .u8) x]) (fun _ => []) (fun x => True) (fun x => (.c .b (wb x), [])) := by
  refine fnE (n := 21) Go.Proofs.Try.func138 rfl rfl (ent Go.Proofs.Try.func138 (by kernel_rfl) rfl) ?_
  rintro x hx
  refine ⟨Le rfl, fun w0 S0 H Z hH => ?_⟩
  try simp only [] at hx
  refine cseq ?_
  refine creg ?_
  refine o (.inl rfl) (L rfl) (asn rfl) rfl ?_
  refine onil ?_
  refine xthn ?_
  refine cseq ?_
  refine creg ?_
  refine o (.inl rfl) (L rfl) (mv rfl) rfl ?_
  refine o (.inl rfl) (L rfl) (ibin rfl rfl rfl) rfl ?_
  refine o (.inl rfl) (L rfl) (mv rfl) rfl ?_
  refine ocase (t := 5) rfl (fun c1 => ?_) (fun c1 => ?_)
  · try simp only [q1, q2, q3, q4, q5, q6, q7, q8, q9, q10, q11, q12, q13, q14, q15, q16, q17] at c1
    refine o (.inr ⟨_, _, _, rfl, rfl, rfl⟩) (L rfl) (mv rfl) rfl ?_
    refine o (.inr ⟨_, _, _, rfl, rfl, rfl⟩) (L rfl) (ibin rfl rfl rfl) rfl ?_
    refine o (.inl rfl) (L rfl) (pickT rfl rfl) rfl ?_
    refine o (.inl rfl) (L rfl) (mv rfl) rfl ?_
    refine ocase (t := 9) rfl (fun c2 => ?_) (fun c2 => ?_)
    · try simp only [q1, q2, q3, q4, q5, q6, q7, q8, q9, q10, q11, q12, q13, q14, q15, q16, q17] at c2
      refine oskip rfl rfl rfl rfl rfl (L rfl) ?_
      refine oskip rfl rfl rfl rfl rfl (L rfl) ?_
      refine oskip rfl rfl rfl rfl rfl (L rfl) ?_
      refine oskipu rfl rfl rfl rfl (L rfl) ?_
      refine oskipu rfl rfl rfl rfl (L rfl) ?_
      refine oskip rfl rfl rfl rfl rfl (L rfl) ?_
      refine o (.inl rfl) (L rfl) (pickT rfl rfl) rfl ?_
      refine o (.inl rfl) (L rfl) (mv rfl) rfl ?_
      refine oskip rfl rfl rfl rfl rfl (L rfl) ?_
      refine oskip rfl rfl rfl rfl rfl (L rfl) ?_
      refine o (.inl rfl) (L rfl) (pickT rfl rfl) rfl ?_
      refine o (.inl rfl) (L rfl) (asn rfl) rfl ?_
      refine onil ?_
      refine xthn ?_
      refine cret ?_
      refine retd rfl (.t rfl (.n)) (h0 hH) rfl ?_
      refine re ?_
      rw [Bool.eq_iff_iff]; simp only [wb, decide_eq_true_eq, beq_iff_eq, Bool.false_eq_true, iff_false, iff_true]; omega
    · try simp only [q1, q2, q3, q4, q5, q6, q7, q8, q9, q10, q11, q12, q13, q14, q15, q16, q17] at c2
      refine o (.inr ⟨_, _, _, rfl, rfl, rfl⟩) (L rfl) (mv rfl) rfl ?_
      refine o (.inr ⟨_, _, _, rfl, rfl, rfl⟩) (L rfl) (ibin rfl rfl rfl) rfl ?_
      refine o (.inr ⟨_, _, _, rfl, rfl, rfl⟩) (L rfl) (mv rfl) rfl ?_
      refine ocase (t := 12) rfl (fun c3 => ?_) (fun c3 => ?_)
      · try simp only [q1, q2, q3, q4, q5, q6, q7, q8, q9, q10, q11, q12, q13, q14, q15, q16, q17] at c3
        refine o (.inr ⟨_, _, _, rfl, rfl, rfl⟩) (L rfl) (mv rfl) rfl ?_
        refine o (.inr ⟨_, _, _, rfl, rfl, rfl⟩) (L rfl) (ibin rfl rfl rfl) rfl ?_
        refine o (.inr ⟨_, _, _, rfl, rfl, rfl⟩) (L rfl) (pickT rfl rfl) rfl ?_
        refine o (.inl rfl) (L rfl) (pickF rfl rfl) rfl ?_
        refine o (.inl rfl) (L rfl) (mv rfl) rfl ?_
        refine ocase (t := 17) rfl (fun c4 => ?_) (fun c4 => ?_)
        · try simp only [q1, q2, q3, q4, q5, q6, q7, q8, q9, q10, q11, q12, q13, q14, q15, q16, q17] at c4
          refine oskip rfl rfl rfl rfl rfl (L rfl) ?_
          refine oskip rfl rfl rfl rfl rfl (L rfl) ?_
          refine o (.inl rfl) (L rfl) (pickT rfl rfl) rfl ?_
          refine o (.inl rfl) (L rfl) (asn rfl) rfl ?_
          refine onil ?_
          refine xthn ?_
          refine cret ?_
          refine retd rfl (.t rfl (.n)) (h0 hH) rfl ?_
          refine re ?_
          rw [Bool.eq_iff_iff]; simp only [wb, decide_eq_true_eq, beq_iff_eq, Bool.false_eq_true, iff_false, iff_true]; omega
        · try simp only [q1, q2, q3, q4, q5, q6, q7, q8, q9, q10, q11, q12, q13, q14, q15, q16, q17] at c4
          refine o (.inr ⟨_, _, _, rfl, rfl, rfl⟩) (L rfl) (mv rfl) rfl ?_
          refine o (.inr ⟨_, _, _, rfl, rfl, rfl⟩) (L rfl) (ibin rfl rfl rfl) rfl ?_
          refine o (.inl rfl) (L rfl) (pickF rfl rfl) rfl ?_
          refine o (.inl rfl) (L rfl) (asn rfl) rfl ?_
          refine onil ?_
          refine xthn ?_
          refine cret ?_
          refine retd rfl (.t rfl (.n)) (h0 hH) rfl ?_
          refine re ?_
          rw [Bool.eq_iff_iff]; simp only [wb, decide_eq_true_eq, beq_iff_eq, Bool.false_eq_true, iff_false, iff_true]; omega
      · try simp only [q1, q2, q3, q4, q5, q6, q7, q8, q9, q10, q11, q12, q13, q14, q15, q16, q17] at c3
        refine oskip rfl rfl rfl rfl rfl (L rfl) ?_
        refine oskip rfl rfl rfl rfl rfl (L rfl) ?_
        refine o (.inr ⟨_, _, _, rfl, rfl, rfl⟩) (L rfl) (pickF rfl rfl) rfl ?_
        refine o (.inl rfl) (L rfl) (pickF rfl rfl) rfl ?_
        refine o (.inl rfl) (L rfl) (mv rfl) rfl ?_
        refine o (.inr ⟨_, _, _, rfl, rfl, rfl⟩) (L rfl) (mv rfl) rfl ?_
        refine o (.inr ⟨_, _, _, rfl, rfl, rfl⟩) (L rfl) (ibin rfl rfl rfl) rfl ?_
        refine o (.inl rfl) (L rfl) (pickF rfl rfl) rfl ?_
        refine o (.inl rfl) (L rfl) (asn rfl) rfl ?_
        refine onil ?_
        refine xthn ?_
        refine cret ?_
        refine retd rfl (.t rfl (.n)) (h0 hH) rfl ?_
        refine re ?_
        rw [Bool.eq_iff_iff]; simp only [wb, decide_eq_true_eq, beq_iff_eq, Bool.false_eq_true, iff_false, iff_true]; omega
  · try simp only [q1, q2, q3, q4, q5, q6, q7, q8, q9, q10, q11, q12, q13, q14, q15, q16, q17] at c1
    refine oskip rfl rfl rfl rfl rfl (L rfl) ?_
    refine oskip rfl rfl rfl rfl rfl (L rfl) ?_
    refine o (.inl rfl) (L rfl) (pickF rfl rfl) rfl ?_
    refine o (.inl rfl) (L rfl) (mv rfl) rfl ?_
    refine o (.inr ⟨_, _, _, rfl, rfl, rfl⟩) (L rfl) (mv rfl) rfl ?_
    refine o (.inr ⟨_, _, _, rfl, rfl, rfl⟩) (L rfl) (ibin rfl rfl rfl) rfl ?_
    refine o (.inr ⟨_, _, _, rfl, rfl, rfl⟩) (L rfl) (mv rfl) rfl ?_
    refine ocase (t := 12) rfl (fun c5 => ?_) (fun c5 => ?_)
    · try simp only [q1, q2, q3, q4, q5, q6, q7, q8, q9, q10, q11, q12, q13, q14, q15, q16, q17] at c5
      refine o (.inr ⟨_, _, _, rfl, rfl, rfl⟩) (L rfl) (mv rfl) rfl ?_
      refine o (.inr ⟨_, _, _, rfl, rfl, rfl⟩) (L rfl) (ibin rfl rfl rfl) rfl ?_
      refine o (.inr ⟨_, _, _, rfl, rfl, rfl⟩) (L rfl) (pickT rfl rfl) rfl ?_
      refine o (.inl rfl) (L rfl) (pickF rfl rfl) rfl ?_
      refine o (.inl rfl) (L rfl) (mv rfl) rfl ?_
      refine ocase (t := 17) rfl (fun c6 => ?_) (fun c6 => ?_)
      · try simp only [q1, q2, q3, q4, q5, q6, q7, q8, q9, q10, q11, q12, q13, q14, q15, q16, q17] at c6
        refine oskip rfl rfl rfl rfl rfl (L rfl) ?_
        refine oskip rfl rfl rfl rfl rfl (L rfl) ?_
        refine o (.inl rfl) (L rfl) (pickT rfl rfl) rfl ?_
        refine o (.inl rfl) (L rfl) (asn rfl) rfl ?_
        refine onil ?_
        refine xthn ?_
        refine cret ?_
        refine retd rfl (.t rfl (.n)) (h0 hH) rfl ?_
        refine re ?_
        rw [Bool.eq_iff_iff]; simp only [wb, decide_eq_true_eq, beq_iff_eq, Bool.false_eq_true, iff_false, iff_true]; omega
      · try simp only [q1, q2, q3, q4, q5, q6, q7, q8, q9, q10, q11, q12, q13, q14, q15, q16, q17] at c6
        refine o (.inr ⟨_, _, _, rfl, rfl, rfl⟩) (L rfl) (mv rfl) rfl ?_
        refine o (.inr ⟨_, _, _, rfl, rfl, rfl⟩) (L rfl) (ibin rfl rfl rfl) rfl ?_
        refine o (.inl rfl) (L rfl) (pickF rfl rfl) rfl ?_
        refine o (.inl rfl) (L rfl) (asn rfl) rfl ?_
        refine onil ?_
        refine xthn ?_
        refine cret ?_
        refine retd rfl (.t rfl (.n)) (h0 hH) rfl ?_
        refine re ?_
        rw [Bool.eq_iff_iff]; simp only [wb, decide_eq_true_eq, beq_iff_eq, Bool.false_eq_true, iff_false, iff_true]; omega
    · try simp only [q1, q2, q3, q4, q5, q6, q7, q8, q9, q10, q11, q12, q13, q14, q15, q16, q17] at c5
      refine oskip rfl rfl rfl rfl rfl (L rfl) ?_
      refine oskip rfl rfl rfl rfl rfl (L rfl) ?_
      refine o (.inr ⟨_, _, _, rfl, rfl, rfl⟩) (L rfl) (pickF rfl rfl) rfl ?_
      refine o (.inl rfl) (L rfl) (pickF rfl rfl) rfl ?_
      refine o (.inl rfl) (L rfl) (mv rfl) rfl ?_
      refine o (.inr ⟨_, _, _, rfl, rfl, rfl⟩) (L rfl) (mv rfl) rfl ?_
      refine o (.inr ⟨_, _, _, rfl, rfl, rfl⟩) (L rfl) (ibin rfl rfl rfl) rfl ?_
      refine o (.inl rfl) (L rfl) (pickF rfl rfl) rfl ?_
      refine o (.inl rfl) (L rfl) (asn rfl) rfl ?_
      refine onil ?_
      refine xthn ?_
      refine cret ?_
      refine retd rfl (.t rfl (.n)) (h0 hH) rfl ?_
      refine re ?_
      rw [Bool.eq_iff_iff]; simp only [wb, decide_eq_true_eq, beq_iff_eq, Bool.false_eq_true, iff_false, iff_true]; omega

theorem c_spec_l15Word : Fe Go.Proofs.Try.prog 91 (ι := List UInt8) (fun s => [.c .s s]) (fun _ => []) (fun s => True) (fun s => (.c .b (word s), [])) := by
  refine fnE (n := 18) Go.Proofs.Try.func91 rfl rfl (ent Go.Proofs.Try.func91 (by kernel_rfl) rfl) ?_
  rintro s hx
  refine ⟨Le rfl, fun w0 S0 H Z hH => ?_⟩
  try simp only [] at hx
  refine cseq ?_
  refine creg ?_
  refine o (.inl rfl) (L rfl) (asn rfl) rfl ?_
  refine onil ?_
  refine xthn ?_
  refine cseq ?_
  refine cseq ?_
  refine creg ?_
  refine o (.inl rfl) (L rfl) (asn rfl) rfl ?_
  refine onil ?_
  refine xthn ?_
  refine cblock ?_
  refine cloop (ι := Nat) (fun | i => [(0, .c .s s), (3, .c (.i .i64) (i : Int))]) (fun | i => []) (fun | i => i ≤ s.length ∧ (s.take i).all (fun b => wb b.toNat) = true) (fun | i => s.length - i) 0 (by simp) (weak [] (by decide) (h0 hH) (by repeat (first | exact .n | refine .c rfl (by first | rfl) ?_)) (by repeat (first | exact .n | refine .c rfl (by first | rfl | (simp; done)) ?_))) ?_
  rintro i i0
  try simp only [] at i0
  refine cseq ?_
  refine cseq ?_
  refine creg ?_
  refine o (.inl rfl) (L rfl) (mv rfl) rfl ?_
  refine o (.inl rfl) (L rfl) (mv rfl) rfl ?_
  first | refine ofact (t := 5) rfl fun hl1 => ?_ | refine ofacts (t := 5) rfl fun hl1 => ?_ | skip
  refine o (.inl rfl) (L rfl) (lens rfl us9) rfl ?_
  refine o (.inl rfl) (L rfl) (ibin rfl rfl rfl) rfl ?_
  refine onil ?_
  refine xthn ?_
  refine ccond rfl (fun c1 => ?_) (fun c1 => ?_)
  · try simp only [q1, q2, q3, q4, q5, q6, q7, q8, q9, q10, q11, q12, q13, q14, q15, q16, q17] at c1
    refine cskip ?_
    refine xthn ?_
    refine cseq ?_
    refine cblock ?_
    refine cseq ?_
    refine creg ?_
    refine o (.inl rfl) (L rfl) (mv rfl) rfl ?_
    refine o (.inl rfl) (L rfl) (mv rfl) rfl ?_
    refine o (.inl rfl) (L rfl) (ixs rfl rfl us9 (by first | omega | (simp; omega)) (by first | omega | (simp; omega))) rfl ?_
    refine ocall c_spec_l15Byte _ [] [] (by repeat (first | exact .n | refine .c rfl (.c (.e rfl)) ?_ | refine .c rfl (.c (.o (by decide) rfl)) ?_ | refine .c rfl (.c .n) ?_  | refine .c rfl (.g (by repeat (first | exact .n | refine .c (.e rfl) ?_ | refine .c (.o (by decide) rfl) ?_ | refine .c .n ?_))) ?_)) (by first | trivial | (refine ?_; omega) | (simp only []; omega) | (constructor <;> omega) | assumption) (.inl rfl) (by decide) (by decide) (by repeat (first | exact .n | refine .c rfl rfl ?_)) (Le rfl) (.inl rfl) (L rfl) ?_
    refine o (.inl rfl) (L rfl) (unot rfl) rfl ?_
    refine onil ?_
    refine xthn ?_
    refine ccond rfl (fun c2 => ?_) (fun c2 => ?_)
    · try simp only [q1, q2, q3, q4, q5, q6, q7, q8, q9, q10, q11, q12, q13, q14, q15, q16, q17] at c2
      refine cseq ?_
      refine creg ?_
      refine o (.inl rfl) (L rfl) (asn rfl) rfl ?_
      refine onil ?_
      refine xthn ?_
      refine cret ?_
      refine xbr ?_
      refine xthr ?_
      refine xlr ?_
      refine xbr ?_
      refine xthr ?_
      refine retd rfl (.t rfl (.n)) (h0 hH) rfl ?_
      refine re ?_
      rw [word, all_no (z := 0) (i := i) (by omega) (by simpa [bx, ix] using c2)]; rfl
    · try simp only [q1, q2, q3, q4, q5, q6, q7, q8, q9, q10, q11, q12, q13, q14, q15, q16, q17] at c2
      refine cskip ?_
      refine xbn ?_
      refine xthn ?_
      refine creg ?_
      refine o (.inl rfl) (L rfl) (mv rfl) rfl ?_
      refine o (.inl rfl) (L rfl) (iadd rfl rfl (by first | omega | (simp; omega)) (by first | omega | (simp; omega))) rfl ?_
      refine o (.inl rfl) (L rfl) (asn rfl) rfl ?_
      refine onil ?_
      refine xlq (i + 1) (by refine ⟨by omega, ?_⟩; rw [all_step (z := 0) (by omega), i0.2]; simpa [bx, ix] using c2) (by simp only []; omega) (weak [] (by decide) (h0 hH) (by repeat (first | exact .n | refine .c rfl (by first | rfl) ?_)) (by repeat (first | exact .n | refine .c rfl (by first | rfl | (simp; done)) ?_)))
  · try simp only [q1, q2, q3, q4, q5, q6, q7, q8, q9, q10, q11, q12, q13, q14, q15, q16, q17] at c1
    refine cexit ?_
    refine xthe ?_
    refine xle ?_
    refine xbh ?_
    refine xthn ?_
    refine cseq ?_
    refine creg ?_
    refine o (.inl rfl) (L rfl) (mv rfl) rfl ?_
    first | refine ofact (t := 15) rfl fun hl2 => ?_ | refine ofacts (t := 15) rfl fun hl2 => ?_ | skip
    refine o (.inl rfl) (L rfl) (lens rfl us9) rfl ?_
    refine ocall c_spec_l1In (_, _, _) [] [] (by repeat (first | exact .n | refine .c rfl (.c (.e rfl)) ?_ | refine .c rfl (.c (.o (by decide) rfl)) ?_ | refine .c rfl (.c .n) ?_  | refine .c rfl (.g (by repeat (first | exact .n | refine .c (.e rfl) ?_ | refine .c (.o (by decide) rfl) ?_ | refine .c .n ?_))) ?_)) (by first | trivial | (refine ?_; omega) | (simp only []; omega) | (constructor <;> omega) | assumption) (.inl rfl) (by decide) (by decide) (by repeat (first | exact .n | refine .c rfl rfl ?_)) (Le rfl) (.inl rfl) (L rfl) ?_
    refine o (.inl rfl) (L rfl) (asn rfl) rfl ?_
    refine onil ?_
    refine xthn ?_
    refine cret ?_
    refine retd rfl (.t rfl (.n)) (h0 hH) rfl ?_
    refine re ?_
    rw [List.take_of_length_le (by omega)] at i0; rw [word, i0.2, Bool.true_and]; exact decide_eq_decide.2 (by omega)

theorem c_spec_l15Path : Fe Go.Proofs.Try.prog 90 (ι := StrS) (fun p => [.c (.l KS) p]) (fun _ => []) (fun p => True) (fun p => (.c .b (path p), [])) := by
  refine fnE (n := 18) Go.Proofs.Try.func90 rfl rfl (ent Go.Proofs.Try.func90 (by kernel_rfl) rfl) ?_
  rintro p hx
  refine ⟨Le rfl, fun w0 S0 H Z hH => ?_⟩
  try simp only [] at hx
  refine cseq ?_
  refine creg ?_
  refine o (.inl rfl) (L rfl) (asn rfl) rfl ?_
  refine onil ?_
  refine xthn ?_
  refine cseq ?_
  refine cseq ?_
  refine creg ?_
  refine o (.inl rfl) (L rfl) (mv rfl) rfl ?_
  first | refine ofact (t := 5) rfl fun hl1 => ?_ | refine ofacts (t := 5) rfl fun hl1 => ?_ | skip
  first | refine o (.inl rfl) (L rfl) (lenl rfl li40) rfl ?_ | refine o (.inl rfl) (L rfl) (leno rfl rfl li40) rfl ?_ | refine o (.inl rfl) (L rfl) (lennl rfl li40) rfl ?_
  refine o (.inl rfl) (L rfl) (mv rfl) rfl ?_
  refine onil ?_
  refine xthn ?_
  refine cblock ?_
  refine cloop (ι := Nat) (fun | i => [(0, .c (.l KS) p), (5, .c (.l KS) p), (6, .c (.i .i64) (p.length : Int)), (7, .c (.i .i64) (i : Int))]) (fun | i => []) (fun | i => i ≤ p.length ∧ (p.take i).all (fun w => word w.1) = true) (fun | i => p.length - i) 0 (by simp) (weak [] (by decide) (h0 hH) (by repeat (first | exact .n | refine .c rfl (by first | rfl) ?_)) (by repeat (first | exact .n | refine .c rfl (by first | rfl | (simp; done)) ?_))) ?_
  rintro i i0
  try simp only [] at i0
  refine cseq ?_
  refine creg ?_
  refine o (.inl rfl) (L rfl) (ibin rfl rfl rfl) rfl ?_
  refine onil ?_
  refine xthn ?_
  refine cseq ?_
  refine ccond rfl (fun c1 => ?_) (fun c1 => ?_)
  · try simp only [q1, q2, q3, q4, q5, q6, q7, q8, q9, q10, q11, q12, q13, q14, q15, q16, q17] at c1
    refine cskip ?_
    refine xthn ?_
    refine cseq ?_
    refine cblock ?_
    refine cseq ?_
    refine creg ?_
    first | refine o (.inl rfl) (L rfl) (ixl rfl rfl li40 rfl (by first | omega | (simp; omega)) (by first | omega | (simp; omega))) rfl ?_ | refine o (.inl rfl) (L rfl) (ixo rfl rfl rfl li40 rfl (by first | omega | (simp; omega)) (by first | omega | (simp; omega))) rfl ?_
    first | refine o (.inl rfl) (L rfl) (ldb rfl rfl rfl ti9) rfl ?_ | refine o (.inl rfl) (L rfl) (ldr rfl ti9) rfl ?_ | refine o (.inl rfl) (L rfl) (lde rfl rfl (by first | omega | (simp; omega)) (L rfl) rfl ti9) rfl ?_
    refine o (.inl rfl) (L rfl) (asn rfl) rfl ?_
    refine onil ?_
    refine xthn ?_
    refine cseq ?_
    refine creg ?_
    refine o (.inl rfl) (L rfl) (mv rfl) rfl ?_
    refine ocall c_spec_l15Word _ [] [] (by repeat (first | exact .n | refine .c rfl (.c (.e rfl)) ?_ | refine .c rfl (.c (.o (by decide) rfl)) ?_ | refine .c rfl (.c .n) ?_  | refine .c rfl (.g (by repeat (first | exact .n | refine .c (.e rfl) ?_ | refine .c (.o (by decide) rfl) ?_ | refine .c .n ?_))) ?_)) (by first | trivial | (refine ?_; omega) | (simp only []; omega) | (constructor <;> omega) | assumption) (.inl rfl) (by decide) (by decide) (by repeat (first | exact .n | refine .c rfl rfl ?_)) (Le rfl) (.inl rfl) (L rfl) ?_
    refine o (.inl rfl) (L rfl) (unot rfl) rfl ?_
    refine onil ?_
    refine xthn ?_
    refine ccond rfl (fun c2 => ?_) (fun c2 => ?_)
    · try simp only [q1, q2, q3, q4, q5, q6, q7, q8, q9, q10, q11, q12, q13, q14, q15, q16, q17] at c2
      refine cseq ?_
      refine creg ?_
      refine o (.inl rfl) (L rfl) (asn rfl) rfl ?_
      refine onil ?_
      refine xthn ?_
      refine cret ?_
      refine xbr ?_
      refine xthr ?_
      refine xlr ?_
      refine xbr ?_
      refine xthr ?_
      refine retd rfl (.t rfl (.n)) (h0 hH) rfl ?_
      refine re ?_
      rw [path, all_no (z := KS.z) (i := i) (by omega) c2]; rfl
    · try simp only [q1, q2, q3, q4, q5, q6, q7, q8, q9, q10, q11, q12, q13, q14, q15, q16, q17] at c2
      refine cskip ?_
      refine xbn ?_
      refine xthn ?_
      refine creg ?_
      refine o (.inl rfl) (L rfl) (iadd rfl rfl (by first | omega | (simp; omega)) (by first | omega | (simp; omega))) rfl ?_
      refine o (.inl rfl) (L rfl) (mv rfl) rfl ?_
      refine onil ?_
      refine xlq (i + 1) (by refine ⟨by omega, ?_⟩; rw [all_step (z := KS.z) (by omega), i0.2]; simpa using c2) (by simp only []; omega) (weak [] (by decide) (h0 hH) (by repeat (first | exact .n | refine .c rfl (by first | rfl) ?_)) (by repeat (first | exact .n | refine .c rfl (by first | rfl | (simp; done)) ?_)))
  · try simp only [q1, q2, q3, q4, q5, q6, q7, q8, q9, q10, q11, q12, q13, q14, q15, q16, q17] at c1
    refine cexit ?_
    refine xthe ?_
    refine xle ?_
    refine xbh ?_
    refine xthn ?_
    refine cseq ?_
    refine creg ?_
    refine o (.inl rfl) (L rfl) (mv rfl) rfl ?_
    first | refine ofact (t := 15) rfl fun hl2 => ?_ | refine ofacts (t := 15) rfl fun hl2 => ?_ | skip
    first | refine o (.inl rfl) (L rfl) (lenl rfl li40) rfl ?_ | refine o (.inl rfl) (L rfl) (leno rfl rfl li40) rfl ?_ | refine o (.inl rfl) (L rfl) (lennl rfl li40) rfl ?_
    refine ocall c_spec_l1In (_, _, _) [] [] (by repeat (first | exact .n | refine .c rfl (.c (.e rfl)) ?_ | refine .c rfl (.c (.o (by decide) rfl)) ?_ | refine .c rfl (.c .n) ?_  | refine .c rfl (.g (by repeat (first | exact .n | refine .c (.e rfl) ?_ | refine .c (.o (by decide) rfl) ?_ | refine .c .n ?_))) ?_)) (by first | trivial | (refine ?_; omega) | (simp only []; omega) | (constructor <;> omega) | assumption) (.inl rfl) (by decide) (by decide) (by repeat (first | exact .n | refine .c rfl rfl ?_)) (Le rfl) (.inl rfl) (L rfl) ?_
    refine o (.inl rfl) (L rfl) (asn rfl) rfl ?_
    refine onil ?_
    refine xthn ?_
    refine cret ?_
    refine retd rfl (.t rfl (.n)) (h0 hH) rfl ?_
    refine re ?_
    rw [List.take_of_length_le (by omega)] at i0; rw [path, i0.2, Bool.true_and]; exact decide_eq_decide.2 (by omega)

end Go.Proofs.YtifpekpmnlcmoaaE
