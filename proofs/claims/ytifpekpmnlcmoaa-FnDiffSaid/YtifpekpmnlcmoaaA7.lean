import Derived.Test.YtifpekpmnlcmoaaProg
import Derived.Test.YtifpekpmnlcmoaaE19
import Derived.Test.YtifpekpmnlcmoaaA5
set_option linter.unusedVariables false
set_option linter.unusedSimpArgs false
set_option maxRecDepth 100000
namespace Go.Proofs.YtifpekpmnlcmoaaE
open Go Go.RowKit Go.Shelf Go.Proofs

def pwb (b : UInt8) : Bool := wb b.toNat
theorem tw_eq {s : List UInt8} {i : Nat} (h1 : (s.take i).all pwb = true) (h2 : i ≤ s.length) (h3 : s.length ≤ i ∨ pwb (ix 0 s (i : Int)) = false) : s.take i = s.takeWhile pwb := by
  induction s generalizing i with
  | nil => simp
  | cons x s ih =>
    cases i with
    | zero =>
      rcases h3 with h | h
      · simp at h
      · have : pwb x = false := h
        simp [List.takeWhile_cons, this]
    | succ i =>
      simp only [List.take_succ_cons, List.all_cons, Bool.and_eq_true] at h1
      rw [List.take_succ_cons, List.takeWhile_cons, if_pos h1.1]
      rw [ih h1.2 (by simpa using h2) (h3.imp (fun h => by simpa using h) (fun h => by simpa [ix] using h))]
theorem tw_all : ∀ (s : List UInt8), (s.takeWhile pwb == s) = s.all pwb
  | [] => rfl
  | x :: s => by
    rw [List.takeWhile_cons, List.all_cons, ← tw_all s]
    cases h : pwb x with
    | true => rw [if_pos rfl, Bool.true_and, Bool.eq_iff_iff]; simp
    | false => simp
theorem word_eq (s : List UInt8) : word s = (decide (1 ≤ (s.length : Int) ∧ (s.length : Int) ≤ 8) && (s.takeWhile pwb == s)) := by
  rw [tw_all, Bool.and_comm]
  have : (decide (1 ≤ (s.length : Int) ∧ (s.length : Int) ≤ 8)) = decide (1 ≤ s.length ∧ s.length ≤ 8) := decide_eq_decide.2 (by omega)
  rw [this]; rfl
def fidx {α : Type} (p : α → Bool) : List α → Int → Int
  | [], _ => -1
  | x :: r, i => if p x = true then i else fidx p r (i + 1)
theorem fidx_any {α : Type} (p : α → Bool) : ∀ (xs : List α) (i : Int), 0 ≤ i → (decide (fidx p xs i ≥ 0)) = xs.any p
  | [], i, h => by simp [fidx]
  | x :: r, i, h => by
    rw [fidx, List.any_cons]
    by_cases hp : p x = true
    · simp [hp, h]
    · have := fidx_any p r (i + 1) (by omega)
      have hf : p x = false := by simpa using hp
      rw [if_neg hp, hf]; simpa using this
theorem all_any {α : Type} {f : α → Bool} : ∀ {p : List α}, p.all f = !(p.any fun x => !f x)
  | [] => rfl
  | x :: r => by simp only [List.all_cons, List.any_cons, Bool.not_or, Bool.not_not, all_any (p := r)]
theorem path_eq (p : StrS) : path p = (decide (1 ≤ (p.length : Int) ∧ (p.length : Int) ≤ 5) && !(p.any fun x => !word x.1)) := by
  have e : (decide (1 ≤ (p.length : Int) ∧ (p.length : Int) ≤ 5)) = decide (1 ≤ p.length ∧ p.length ≤ 5) := decide_eq_decide.2 (by omega)
  rw [e, Bool.and_comm, path, all_any]
theorem beg_eq : ∀ (a b : StrS), beg a b = (decide ((a.length : Int) ≤ b.length) && decide (a = b.take a.length))
  | [], b => by simp [beg]
  | x :: a, [] => by simp [beg]
  | x :: a, y :: b => by
    rw [beg, beg_eq a b, Bool.eq_iff_iff]
    simp only [Bool.and_eq_true, decide_eq_true_eq, List.length_cons, List.take_succ_cons, List.cons.injEq]
    constructor
    · rintro ⟨h1, h2, h3⟩; exact ⟨by omega, Prod.ext h1 rfl, h3⟩
    · rintro ⟨h1, h2, h3⟩; exact ⟨by rw [h2], by omega, h3⟩
def cmpT (s t : List UInt8) : Int := if Op.bytesLess s t = true then -1 else if (!(Op.bytesLess s t || s == t)) = true then 1 else 0
def cmpS : StrS → StrS → Int
  | [], b => if 0 < b.length then -1 else 0
  | _ :: _, [] => 1
  | x :: a, y :: b => if cmpT x.1 y.1 = 0 then cmpS a b else cmpT x.1 y.1
theorem bl_irr : ∀ (s : List UInt8), Op.bytesLess s s = false
  | [] => rfl
  | x :: s => by simp [Op.bytesLess, bl_irr s]
theorem cmpT_0 (s t : List UInt8) : cmpT s t = 0 ↔ s = t := by
  unfold cmpT
  constructor
  · intro h
    split at h
    · omega
    · rename_i h1
      split at h
      · omega
      · rename_i h2; simpa [h1] using h2
  · rintro rfl; simp [bl_irr]
theorem less_eq : ∀ (a b : StrS), less a b = decide (cmpS a b < 0)
  | [], b => by rw [Bool.eq_iff_iff, decide_eq_true_iff]; simp only [less, cmpS, decide_eq_true_eq]; split <;> omega
  | x :: a, [] => by rw [Bool.eq_iff_iff, decide_eq_true_iff]; simp [less, cmpS]
  | x :: a, y :: b => by
    rw [Bool.eq_iff_iff, decide_eq_true_iff]
    simp only [less, cmpS]
    by_cases h : x.1 = y.1
    · rw [if_pos h, if_pos ((cmpT_0 _ _).2 h), less_eq a b, decide_eq_true_iff]
    · rw [if_neg h, if_neg (fun e => h ((cmpT_0 _ _).1 e))]
      unfold cmpT
      cases hb : Op.bytesLess x.1 y.1 with
      | true => simp
      | false => simp [h]

theorem c_impl_within : Fe Go.Proofs.Try.prog 99 (ι := Int × Int × Int) (fun | (n, lo, hi) => [.c (.i .i64) n, .c (.i .i64) lo, .c (.i .i64) hi]) (fun _ => []) (fun | (n, lo, hi) => True) (fun | (n, lo, hi) => (.c .b (decide (lo ≤ n ∧ n ≤ hi)), [])) := by
  refine fnE (n := 15) Go.Proofs.Try.func99 rfl rfl (ent Go.Proofs.Try.func99 (by kernel_rfl) rfl) ?_
  rintro ⟨n, lo, hi⟩ hx
  refine ⟨Le rfl, fun w0 S0 H Z hH => ?_⟩
  try simp only [] at hx
  refine cseq ?_
  refine creg ?_
  refine o (.inl rfl) (L rfl) (asn rfl) rfl ?_
  refine onil ?_
  refine xthn ?_
  refine cseq ?_
  refine creg ?_
  refine o (.inl rfl) (L rfl) (mv rfl) rfl ?_
  refine o (.inl rfl) (L rfl) (mv rfl) rfl ?_
  refine o (.inl rfl) (L rfl) (ibin rfl rfl rfl) rfl ?_
  refine o (.inl rfl) (L rfl) (mv rfl) rfl ?_
  refine ocase (t := 10) rfl (fun c1 => ?_) (fun c1 => ?_)
  · try simp only [q1, q2, q3, q4, q5, q6, q7, q8, q9, q10, q11, q12, q13, q14, q15, q16, q17] at c1
    refine o (.inr ⟨_, _, _, rfl, rfl, rfl⟩) (L rfl) (mv rfl) rfl ?_
    refine o (.inr ⟨_, _, _, rfl, rfl, rfl⟩) (L rfl) (mv rfl) rfl ?_
    refine o (.inr ⟨_, _, _, rfl, rfl, rfl⟩) (L rfl) (ibin rfl rfl rfl) rfl ?_
    refine o (.inl rfl) (L rfl) (pickT rfl rfl) rfl ?_
    refine o (.inl rfl) (L rfl) (asn rfl) rfl ?_
    refine onil ?_
    refine xthn ?_
    refine cret ?_
    refine retd rfl (.t rfl (.n)) (h0 hH) rfl ?_
    refine re ?_
    simp [c1]
  · try simp only [q1, q2, q3, q4, q5, q6, q7, q8, q9, q10, q11, q12, q13, q14, q15, q16, q17] at c1
    refine oskip rfl rfl rfl rfl rfl (L rfl) ?_
    refine oskip rfl rfl rfl rfl rfl (L rfl) ?_
    refine oskip rfl rfl rfl rfl rfl (L rfl) ?_
    refine o (.inl rfl) (L rfl) (pickF rfl rfl) rfl ?_
    refine o (.inl rfl) (L rfl) (asn rfl) rfl ?_
    refine onil ?_
    refine xthn ?_
    refine cret ?_
    refine retd rfl (.t rfl (.n)) (h0 hH) rfl ?_
    refine re ?_
    simp; omega

theorem c_impl_isWordByte : Fe Go.Proofs.Try.prog 167 (ι := Int) (fun x => [.c (.i .u8) x]) (fun _ => []) (fun x => True) (fun x => (.c .b (wb x), [])) := by
  refine fnE (n := 21) Go.Proofs.Try.func167 rfl rfl (ent Go.Proofs.Try.func167 (by kernel_rfl) rfl) ?_
  rintro x hx
  refine ⟨Le rfl, fun w0 S0 H Z hH => ?_⟩
  try simp only [] at hx
  refine cseq ?_
  refine creg ?_
  refine o (.inl rfl) (L rfl) (asn rfl) rfl ?_
  refine onil ?_
  refine xthn ?_
  refine cseq ?_
  refine creg ?_
  refine o (.inl rfl) (L rfl) (mv rfl) rfl ?_
  refine o (.inl rfl) (L rfl) (ibin rfl rfl rfl) rfl ?_
  refine o (.inl rfl) (L rfl) (mv rfl) rfl ?_
  refine ocase (t := 5) rfl (fun c1 => ?_) (fun c1 => ?_)
  · try simp only [q1, q2, q3, q4, q5, q6, q7, q8, q9, q10, q11, q12, q13, q14, q15, q16, q17] at c1
    refine o (.inr ⟨_, _, _, rfl, rfl, rfl⟩) (L rfl) (mv rfl) rfl ?_
    refine o (.inr ⟨_, _, _, rfl, rfl, rfl⟩) (L rfl) (ibin rfl rfl rfl) rfl ?_
    refine o (.inl rfl) (L rfl) (pickT rfl rfl) rfl ?_
    refine o (.inl rfl) (L rfl) (mv rfl) rfl ?_
    refine ocase (t := 9) rfl (fun c2 => ?_) (fun c2 => ?_)
    · try simp only [q1, q2, q3, q4, q5, q6, q7, q8, q9, q10, q11, q12, q13, q14, q15, q16, q17] at c2
      refine oskip rfl rfl rfl rfl rfl (L rfl) ?_
      refine oskip rfl rfl rfl rfl rfl (L rfl) ?_
      refine oskip rfl rfl rfl rfl rfl (L rfl) ?_
      refine oskipu rfl rfl rfl rfl (L rfl) ?_
      refine oskipu rfl rfl rfl rfl (L rfl) ?_
      refine oskip rfl rfl rfl rfl rfl (L rfl) ?_
      refine o (.inl rfl) (L rfl) (pickT rfl rfl) rfl ?_
      refine o (.inl rfl) (L rfl) (mv rfl) rfl ?_
      refine oskip rfl rfl rfl rfl rfl (L rfl) ?_
      refine oskip rfl rfl rfl rfl rfl (L rfl) ?_
      refine o (.inl rfl) (L rfl) (pickT rfl rfl) rfl ?_
      refine o (.inl rfl) (L rfl) (asn rfl) rfl ?_
      refine onil ?_
      refine xthn ?_
      refine cret ?_
      refine retd rfl (.t rfl (.n)) (h0 hH) rfl ?_
      refine re ?_
      rw [Bool.eq_iff_iff]; simp only [wb, decide_eq_true_eq, beq_iff_eq, Bool.false_eq_true, iff_false, iff_true]; omega
    · try simp only [q1, q2, q3, q4, q5, q6, q7, q8, q9, q10, q11, q12, q13, q14, q15, q16, q17] at c2
      refine o (.inr ⟨_, _, _, rfl, rfl, rfl⟩) (L rfl) (mv rfl) rfl ?_
      refine o (.inr ⟨_, _, _, rfl, rfl, rfl⟩) (L rfl) (ibin rfl rfl rfl) rfl ?_
      refine o (.inr ⟨_, _, _, rfl, rfl, rfl⟩) (L rfl) (mv rfl) rfl ?_
      refine ocase (t := 12) rfl (fun c3 => ?_) (fun c3 => ?_)
      · try simp only [q1, q2, q3, q4, q5, q6, q7, q8, q9, q10, q11, q12, q13, q14, q15, q16, q17] at c3
        refine o (.inr ⟨_, _, _, rfl, rfl, rfl⟩) (L rfl) (mv rfl) rfl ?_
        refine o (.inr ⟨_, _, _, rfl, rfl, rfl⟩) (L rfl) (ibin rfl rfl rfl) rfl ?_
        refine o (.inr ⟨_, _, _, rfl, rfl, rfl⟩) (L rfl) (pickT rfl rfl) rfl ?_
        refine o (.inl rfl) (L rfl) (pickF rfl rfl) rfl ?_
        refine o (.inl rfl) (L rfl) (mv rfl) rfl ?_
        refine ocase (t := 17) rfl (fun c4 => ?_) (fun c4 => ?_)
        · try simp only [q1, q2, q3, q4, q5, q6, q7, q8, q9, q10, q11, q12, q13, q14, q15, q16, q17] at c4
          refine oskip rfl rfl rfl rfl rfl (L rfl) ?_
          refine oskip rfl rfl rfl rfl rfl (L rfl) ?_
          refine o (.inl rfl) (L rfl) (pickT rfl rfl) rfl ?_
          refine o (.inl rfl) (L rfl) (asn rfl) rfl ?_
          refine onil ?_
          refine xthn ?_
          refine cret ?_
          refine retd rfl (.t rfl (.n)) (h0 hH) rfl ?_
          refine re ?_
          rw [Bool.eq_iff_iff]; simp only [wb, decide_eq_true_eq, beq_iff_eq, Bool.false_eq_true, iff_false, iff_true]; omega
        · try simp only [q1, q2, q3, q4, q5, q6, q7, q8, q9, q10, q11, q12, q13, q14, q15, q16, q17] at c4
          refine o (.inr ⟨_, _, _, rfl, rfl, rfl⟩) (L rfl) (mv rfl) rfl ?_
          refine o (.inr ⟨_, _, _, rfl, rfl, rfl⟩) (L rfl) (ibin rfl rfl rfl) rfl ?_
          refine o (.inl rfl) (L rfl) (pickF rfl rfl) rfl ?_
          refine o (.inl rfl) (L rfl) (asn rfl) rfl ?_
          refine onil ?_
          refine xthn ?_
          refine cret ?_
          refine retd rfl (.t rfl (.n)) (h0 hH) rfl ?_
          refine re ?_
          rw [Bool.eq_iff_iff]; simp only [wb, decide_eq_true_eq, beq_iff_eq, Bool.false_eq_true, iff_false, iff_true]; omega
      · try simp only [q1, q2, q3, q4, q5, q6, q7, q8, q9, q10, q11, q12, q13, q14, q15, q16, q17] at c3
        refine oskip rfl rfl rfl rfl rfl (L rfl) ?_
        refine oskip rfl rfl rfl rfl rfl (L rfl) ?_
        refine o (.inr ⟨_, _, _, rfl, rfl, rfl⟩) (L rfl) (pickF rfl rfl) rfl ?_
        refine o (.inl rfl) (L rfl) (pickF rfl rfl) rfl ?_
        refine o (.inl rfl) (L rfl) (mv rfl) rfl ?_
        refine o (.inr ⟨_, _, _, rfl, rfl, rfl⟩) (L rfl) (mv rfl) rfl ?_
        refine o (.inr ⟨_, _, _, rfl, rfl, rfl⟩) (L rfl) (ibin rfl rfl rfl) rfl ?_
        refine o (.inl rfl) (L rfl) (pickF rfl rfl) rfl ?_
        refine o (.inl rfl) (L rfl) (asn rfl) rfl ?_
        refine onil ?_
        refine xthn ?_
        refine cret ?_
        refine retd rfl (.t rfl (.n)) (h0 hH) rfl ?_
        refine re ?_
        rw [Bool.eq_iff_iff]; simp only [wb, decide_eq_true_eq, beq_iff_eq, Bool.false_eq_true, iff_false, iff_true]; omega
  · try simp only [q1, q2, q3, q4, q5, q6, q7, q8, q9, q10, q11, q12, q13, q14, q15, q16, q17] at c1
    refine oskip rfl rfl rfl rfl rfl (L rfl) ?_
    refine oskip rfl rfl rfl rfl rfl (L rfl) ?_
    refine o (.inl rfl) (L rfl) (pickF rfl rfl) rfl ?_
    refine o (.inl rfl) (L rfl) (mv rfl) rfl ?_
    refine o (.inr ⟨_, _, _, rfl, rfl, rfl⟩) (L rfl) (mv rfl) rfl ?_
    refine o (.inr ⟨_, _, _, rfl, rfl, rfl⟩) (L rfl) (ibin rfl rfl rfl) rfl ?_
    refine o (.inr ⟨_, _, _, rfl, rfl, rfl⟩) (L rfl) (mv rfl) rfl ?_
    refine ocase (t := 12) rfl (fun c5 => ?_) (fun c5 => ?_)
    · try simp only [q1, q2, q3, q4, q5, q6, q7, q8, q9, q10, q11, q12, q13, q14, q15, q16, q17] at c5
      refine o (.inr ⟨_, _, _, rfl, rfl, rfl⟩) (L rfl) (mv rfl) rfl ?_
      refine o (.inr ⟨_, _, _, rfl, rfl, rfl⟩) (L rfl) (ibin rfl rfl rfl) rfl ?_
      refine o (.inr ⟨_, _, _, rfl, rfl, rfl⟩) (L rfl) (pickT rfl rfl) rfl ?_
      refine o (.inl rfl) (L rfl) (pickF rfl rfl) rfl ?_
      refine o (.inl rfl) (L rfl) (mv rfl) rfl ?_
      refine ocase (t := 17) rfl (fun c6 => ?_) (fun c6 => ?_)
      · try simp only [q1, q2, q3, q4, q5, q6, q7, q8, q9, q10, q11, q12, q13, q14, q15, q16, q17] at c6
        refine oskip rfl rfl rfl rfl rfl (L rfl) ?_
        refine oskip rfl rfl rfl rfl rfl (L rfl) ?_
        refine o (.inl rfl) (L rfl) (pickT rfl rfl) rfl ?_
        refine o (.inl rfl) (L rfl) (asn rfl) rfl ?_
        refine onil ?_
        refine xthn ?_
        refine cret ?_
        refine retd rfl (.t rfl (.n)) (h0 hH) rfl ?_
        refine re ?_
        rw [Bool.eq_iff_iff]; simp only [wb, decide_eq_true_eq, beq_iff_eq, Bool.false_eq_true, iff_false, iff_true]; omega
      · try simp only [q1, q2, q3, q4, q5, q6, q7, q8, q9, q10, q11, q12, q13, q14, q15, q16, q17] at c6
        refine o (.inr ⟨_, _, _, rfl, rfl, rfl⟩) (L rfl) (mv rfl) rfl ?_
        refine o (.inr ⟨_, _, _, rfl, rfl, rfl⟩) (L rfl) (ibin rfl rfl rfl) rfl ?_
        refine o (.inl rfl) (L rfl) (pickF rfl rfl) rfl ?_
        refine o (.inl rfl) (L rfl) (asn rfl) rfl ?_
        refine onil ?_
        refine xthn ?_
        refine cret ?_
        refine retd rfl (.t rfl (.n)) (h0 hH) rfl ?_
        refine re ?_
        rw [Bool.eq_iff_iff]; simp only [wb, decide_eq_true_eq, beq_iff_eq, Bool.false_eq_true, iff_false, iff_true]; omega
    · try simp only [q1, q2, q3, q4, q5, q6, q7, q8, q9, q10, q11, q12, q13, q14, q15, q16, q17] at c5
      refine oskip rfl rfl rfl rfl rfl (L rfl) ?_
      refine oskip rfl rfl rfl rfl rfl (L rfl) ?_
      refine o (.inr ⟨_, _, _, rfl, rfl, rfl⟩) (L rfl) (pickF rfl rfl) rfl ?_
      refine o (.inl rfl) (L rfl) (pickF rfl rfl) rfl ?_
      refine o (.inl rfl) (L rfl) (mv rfl) rfl ?_
      refine o (.inr ⟨_, _, _, rfl, rfl, rfl⟩) (L rfl) (mv rfl) rfl ?_
      refine o (.inr ⟨_, _, _, rfl, rfl, rfl⟩) (L rfl) (ibin rfl rfl rfl) rfl ?_
      refine o (.inl rfl) (L rfl) (pickF rfl rfl) rfl ?_
      refine o (.inl rfl) (L rfl) (asn rfl) rfl ?_
      refine onil ?_
      refine xthn ?_
      refine cret ?_
      refine retd rfl (.t rfl (.n)) (h0 hH) rfl ?_
      refine re ?_
      rw [Bool.eq_iff_iff]; simp only [wb, decide_eq_true_eq, beq_iff_eq, Bool.false_eq_true, iff_false, iff_true]; omega

theorem c_impl_wordAt : Fe Go.Proofs.Try.prog 135 (ι := List UInt8) (fun s => [.c .s s]) (fun _ => []) (fun s => True) (fun s => (.c .s (s.takeWhile pwb), [])) := by
  refine fnE (n := 19) Go.Proofs.Try.func135 rfl rfl (ent Go.Proofs.Try.func135 (by kernel_rfl) rfl) ?_
  rintro s hx
  refine ⟨Le rfl, fun w0 S0 H Z hH => ?_⟩
  try simp only [] at hx
  refine cseq ?_
  refine creg ?_
  refine o (.inl rfl) (L rfl) (asn rfl) rfl ?_
  refine onil ?_
  refine xthn ?_
  refine cseq ?_
  refine creg ?_
  refine o (.inl rfl) (L rfl) (asn rfl) rfl ?_
  refine onil ?_
  refine xthn ?_
  refine cseq ?_
  refine cblock ?_
  refine cloop (ι := Nat) (fun | i => [(0, .c .s s), (3, .c (.i .i64) (i : Int))]) (fun | i => []) (fun | i => i ≤ s.length ∧ (s.take i).all pwb = true) (fun | i => s.length - i) 0 (by simp) (weak [] (by decide) (h0 hH) (by repeat (first | exact .n | refine .c rfl (by first | rfl) ?_)) (by repeat (first | exact .n | refine .c rfl (by first | rfl | (simp; done)) ?_))) ?_
  rintro i i0
  try simp only [] at i0
  refine cseq ?_
  refine cseq ?_
  refine creg ?_
  refine o (.inl rfl) (L rfl) (mv rfl) rfl ?_
  refine o (.inl rfl) (L rfl) (mv rfl) rfl ?_
  first | refine ofact (t := 5) rfl fun hl1 => ?_ | refine ofacts (t := 5) rfl fun hl1 => ?_ | skip
  refine o (.inl rfl) (L rfl) (lens rfl us9) rfl ?_
  refine o (.inl rfl) (L rfl) (ibin rfl rfl rfl) rfl ?_
  refine o (.inl rfl) (L rfl) (mv rfl) rfl ?_
  refine ocase (t := 8) rfl (fun c1 => ?_) (fun c1 => ?_)
  · try simp only [q1, q2, q3, q4, q5, q6, q7, q8, q9, q10, q11, q12, q13, q14, q15, q16, q17] at c1
    refine o (.inr ⟨_, _, _, rfl, rfl, rfl⟩) (L rfl) (mv rfl) rfl ?_
    refine o (.inr ⟨_, _, _, rfl, rfl, rfl⟩) (L rfl) (mv rfl) rfl ?_
    refine o (.inr ⟨_, _, _, rfl, rfl, rfl⟩) (L rfl) (ixs rfl rfl us9 (by first | omega | (simp; omega)) (by first | omega | (simp; omega))) rfl ?_
    refine ocall c_impl_isWordByte _ [] [] (by repeat (first | exact .n | refine .c rfl (.c (.e rfl)) ?_ | refine .c rfl (.c (.o (by decide) rfl)) ?_ | refine .c rfl (.c .n) ?_  | refine .c rfl (.g (by repeat (first | exact .n | refine .c (.e rfl) ?_ | refine .c (.o (by decide) rfl) ?_ | refine .c .n ?_))) ?_)) (by first | trivial | (refine ?_; omega) | (simp only []; omega) | (constructor <;> omega) | assumption) (.inr ⟨_, _, _, rfl, rfl, rfl⟩) (by decide) (by decide) (by repeat (first | exact .n | refine .c rfl rfl ?_)) (Le rfl) (.inl rfl) (L rfl) ?_
    refine o (.inl rfl) (L rfl) (pickT rfl rfl) rfl ?_
    refine onil ?_
    refine xthn ?_
    refine ccond rfl (fun c2 => ?_) (fun c2 => ?_)
    · try simp only [q1, q2, q3, q4, q5, q6, q7, q8, q9, q10, q11, q12, q13, q14, q15, q16, q17] at c2
      refine cskip ?_
      refine xthn ?_
      refine cblock ?_
      refine creg ?_
      refine o (.inl rfl) (L rfl) (mv rfl) rfl ?_
      refine o (.inl rfl) (L rfl) (iadd rfl rfl (by first | omega | (simp; omega)) (by first | omega | (simp; omega))) rfl ?_
      refine o (.inl rfl) (L rfl) (asn rfl) rfl ?_
      refine onil ?_
      refine xbn ?_
      refine xlq (i + 1) (by refine ⟨by omega, ?_⟩; rw [all_step (z := 0) (by omega), i0.2]; simpa [bx, ix, pwb] using c2) (by simp only []; omega) (weak [] (by decide) (h0 hH) (by repeat (first | exact .n | refine .c rfl (by first | rfl) ?_)) (by repeat (first | exact .n | refine .c rfl (by first | rfl | (simp; done)) ?_)))
    · try simp only [q1, q2, q3, q4, q5, q6, q7, q8, q9, q10, q11, q12, q13, q14, q15, q16, q17] at c2
      refine cexit ?_
      refine xthe ?_
      refine xle ?_
      refine xbh ?_
      refine xthn ?_
      refine cseq ?_
      refine creg ?_
      refine o (.inl rfl) (L rfl) (mv rfl) rfl ?_
      refine o (.inl rfl) (L rfl) (mv rfl) rfl ?_
      refine o (.inl rfl) (L rfl) (cutsh rfl rfl us9 (by first | omega | (simp; omega)) (by first | omega | (simp; omega))) rfl ?_
      refine o (.inl rfl) (L rfl) (asn rfl) rfl ?_
      refine onil ?_
      refine xthn ?_
      refine cret ?_
      refine retd rfl (.t rfl (.n)) (h0 hH) rfl ?_
      refine re ?_
      exact (tw_eq i0.2 (by omega) (.inr (by simpa [bx, ix, pwb] using c2))).symm
  · try simp only [q1, q2, q3, q4, q5, q6, q7, q8, q9, q10, q11, q12, q13, q14, q15, q16, q17] at c1
    refine oskip rfl rfl rfl rfl rfl (L rfl) ?_
    refine oskip rfl rfl rfl rfl rfl (L rfl) ?_
    refine oskip rfl rfl rfl rfl rfl (L rfl) ?_
    refine oskip rfl rfl rfl rfl rfl (L rfl) ?_
    refine o (.inl rfl) (L rfl) (pickF rfl rfl) rfl ?_
    refine onil ?_
    refine xthn ?_
    refine ccF rfl ?_
    refine cexit ?_
    refine xthe ?_
    refine xle ?_
    refine xbh ?_
    refine xthn ?_
    refine cseq ?_
    refine creg ?_
    refine o (.inl rfl) (L rfl) (mv rfl) rfl ?_
    refine o (.inl rfl) (L rfl) (mv rfl) rfl ?_
    refine o (.inl rfl) (L rfl) (cutsh rfl rfl us9 (by first | omega | (simp; omega)) (by first | omega | (simp; omega))) rfl ?_
    refine o (.inl rfl) (L rfl) (asn rfl) rfl ?_
    refine onil ?_
    refine xthn ?_
    refine cret ?_
    refine retd rfl (.t rfl (.n)) (h0 hH) rfl ?_
    refine re ?_
    exact (tw_eq i0.2 (by omega) (.inl (by omega))).symm

theorem c_impl_isWord : Fe Go.Proofs.Try.prog 88 (ι := List UInt8) (fun s => [.c .s s]) (fun _ => []) (fun s => True) (fun s => (.c .b (word s), [])) := by
  refine fnE (n := 12) Go.Proofs.Try.func88 rfl rfl (ent Go.Proofs.Try.func88 (by kernel_rfl) rfl) ?_
  rintro s hx
  refine ⟨Le rfl, fun w0 S0 H Z hH => ?_⟩
  try simp only [] at hx
  refine cseq ?_
  refine creg ?_
  refine o (.inl rfl) (L rfl) (asn rfl) rfl ?_
  refine onil ?_
  refine xthn ?_
  refine cseq ?_
  refine creg ?_
  refine o (.inl rfl) (L rfl) (mv rfl) rfl ?_
  first | refine ofact (t := 3) rfl fun hl1 => ?_ | refine ofacts (t := 3) rfl fun hl1 => ?_ | skip
  refine o (.inl rfl) (L rfl) (lens rfl us9) rfl ?_
  refine ocall c_impl_within (_, _, _) [] [] (by repeat (first | exact .n | refine .c rfl (.c (.e rfl)) ?_ | refine .c rfl (.c (.o (by decide) rfl)) ?_ | refine .c rfl (.c .n) ?_  | refine .c rfl (.g (by repeat (first | exact .n | refine .c (.e rfl) ?_ | refine .c (.o (by decide) rfl) ?_ | refine .c .n ?_))) ?_)) (by first | trivial | (refine ?_; omega) | (simp only []; omega) | (constructor <;> omega) | assumption) (.inl rfl) (by decide) (by decide) (by repeat (first | exact .n | refine .c rfl rfl ?_)) (Le rfl) (.inl rfl) (L rfl) ?_
  refine o (.inl rfl) (L rfl) (mv rfl) rfl ?_
  refine ocase (t := 6) rfl (fun c1 => ?_) (fun c1 => ?_)
  · try simp only [q1, q2, q3, q4, q5, q6, q7, q8, q9, q10, q11, q12, q13, q14, q15, q16, q17] at c1
    refine o (.inr ⟨_, _, _, rfl, rfl, rfl⟩) (L rfl) (mv rfl) rfl ?_
    refine ocall c_impl_wordAt _ [] [] (by repeat (first | exact .n | refine .c rfl (.c (.e rfl)) ?_ | refine .c rfl (.c (.o (by decide) rfl)) ?_ | refine .c rfl (.c .n) ?_  | refine .c rfl (.g (by repeat (first | exact .n | refine .c (.e rfl) ?_ | refine .c (.o (by decide) rfl) ?_ | refine .c .n ?_))) ?_)) (by first | trivial | (refine ?_; omega) | (simp only []; omega) | (constructor <;> omega) | assumption) (.inr ⟨_, _, _, rfl, rfl, rfl⟩) (by decide) (by decide) (by repeat (first | exact .n | refine .c rfl rfl ?_)) (Le rfl) (.inl rfl) (L rfl) ?_
    refine o (.inr ⟨_, _, _, rfl, rfl, rfl⟩) (L rfl) (mv rfl) rfl ?_
    refine o (.inr ⟨_, _, _, rfl, rfl, rfl⟩) (L rfl) (sbin rfl rfl rfl) rfl ?_
    refine o (.inl rfl) (L rfl) (pickT rfl rfl) rfl ?_
    refine o (.inl rfl) (L rfl) (asn rfl) rfl ?_
    refine onil ?_
    refine xthn ?_
    refine cret ?_
    refine retd rfl (.t rfl (.n)) (h0 hH) rfl ?_
    refine re ?_
    rw [word_eq, decide_eq_true c1, Bool.true_and]
  · try simp only [q1, q2, q3, q4, q5, q6, q7, q8, q9, q10, q11, q12, q13, q14, q15, q16, q17] at c1
    refine oskip rfl rfl rfl rfl rfl (L rfl) ?_
    refine oskip rfl rfl rfl rfl rfl (L rfl) ?_
    refine oskip rfl rfl rfl rfl rfl (L rfl) ?_
    refine oskip rfl rfl rfl rfl rfl (L rfl) ?_
    refine o (.inl rfl) (L rfl) (pickF rfl rfl) rfl ?_
    refine o (.inl rfl) (L rfl) (asn rfl) rfl ?_
    refine onil ?_
    refine xthn ?_
    refine cret ?_
    refine retd rfl (.t rfl (.n)) (h0 hH) rfl ?_
    refine re ?_
    rw [word_eq, decide_eq_false c1, Bool.false_and]

theorem c_impl_areWords_1 : Fe Go.Proofs.Try.prog 134 (ι := List UInt8) (fun s => [.c .s s]) (fun _ => []) (fun s => True) (fun s => (.c .b (!word s), [])) := by
  refine fnE (n := 6) Go.Proofs.Try.func134 rfl rfl (ent Go.Proofs.Try.func134 (by kernel_rfl) rfl) ?_
  rintro s hx
  refine ⟨Le rfl, fun w0 S0 H Z hH => ?_⟩
  try simp only [] at hx
  refine cseq ?_
  refine creg ?_
  refine o (.inl rfl) (L rfl) (asn rfl) rfl ?_
  refine onil ?_
  refine xthn ?_
  refine cseq ?_
  refine creg ?_
  refine o (.inl rfl) (L rfl) (mv rfl) rfl ?_
  refine ocall c_impl_isWord _ [] [] (by repeat (first | exact .n | refine .c rfl (.c (.e rfl)) ?_ | refine .c rfl (.c (.o (by decide) rfl)) ?_ | refine .c rfl (.c .n) ?_  | refine .c rfl (.g (by repeat (first | exact .n | refine .c (.e rfl) ?_ | refine .c (.o (by decide) rfl) ?_ | refine .c .n ?_))) ?_)) (by first | trivial | (refine ?_; omega) | (simp only []; omega) | (constructor <;> omega) | assumption) (.inl rfl) (by decide) (by decide) (by repeat (first | exact .n | refine .c rfl rfl ?_)) (Le rfl) (.inl rfl) (L rfl) ?_
  refine o (.inl rfl) (L rfl) (unot rfl) rfl ?_
  refine o (.inl rfl) (L rfl) (asn rfl) rfl ?_
  refine onil ?_
  refine xthn ?_
  refine cret ?_
  refine retd rfl (.t rfl (.n)) (h0 hH) rfl ?_
  refine re ?_
  rfl

theorem c_slices_IndexFunc_string_string_areWords : Fe Go.Proofs.Try.prog 166 (ι := StrS) (fun a => [.c (.l KS) a, .fn 134 []]) (fun _ => []) (fun a => True) (fun a => (.c (.i .i64) (fidx (fun x => !word x.1) a 0), [])) := by
  refine fnE (n := 19) Go.Proofs.Try.func166 rfl rfl (ent Go.Proofs.Try.func166 (by kernel_rfl) rfl) ?_
  rintro a hx
  refine ⟨Le rfl, fun w0 S0 H Z hH => ?_⟩
  try simp only [] at hx
  refine cseq ?_
  refine creg ?_
  refine o (.inl rfl) (L rfl) (asn rfl) rfl ?_
  refine onil ?_
  refine xthn ?_
  refine cseq ?_
  refine cseq ?_
  refine creg ?_
  refine o (.inl rfl) (L rfl) (mv rfl) rfl ?_
  first | refine ofact (t := 6) rfl fun hl1 => ?_ | refine ofacts (t := 6) rfl fun hl1 => ?_ | skip
  first | refine o (.inl rfl) (L rfl) (lenl rfl li40) rfl ?_ | refine o (.inl rfl) (L rfl) (leno rfl rfl li40) rfl ?_ | refine o (.inl rfl) (L rfl) (lennl rfl li40) rfl ?_
  refine o (.inl rfl) (L rfl) (mv rfl) rfl ?_
  refine onil ?_
  refine xthn ?_
  refine cblock ?_
  refine cloop (ι := Nat) (fun | i => [(0, .c (.l KS) a), (1, .fn 134 []), (7, .c (.i .i64) (a.length : Int)), (8, .c (.i .i64) (i : Int))]) (fun | i => []) (fun | i => i ≤ a.length ∧ fidx (fun x => !word x.1) a 0 = fidx (fun x => !word x.1) (a.drop i) (i : Int)) (fun | i => a.length - i) 0 (by simp) (weak [] (by decide) (h0 hH) (by repeat (first | exact .n | refine .c rfl (by first | rfl) ?_)) (by repeat (first | exact .n | refine .c rfl (by first | rfl | (simp; done)) ?_))) ?_
  rintro i i0
  try simp only [] at i0
  refine cseq ?_
  refine creg ?_
  refine o (.inl rfl) (L rfl) (ibin rfl rfl rfl) rfl ?_
  refine onil ?_
  refine xthn ?_
  refine cseq ?_
  refine ccond rfl (fun c1 => ?_) (fun c1 => ?_)
  · try simp only [q1, q2, q3, q4, q5, q6, q7, q8, q9, q10, q11, q12, q13, q14, q15, q16, q17] at c1
    refine cskip ?_
    refine xthn ?_
    refine cseq ?_
    refine cblock ?_
    refine cseq ?_
    refine creg ?_
    refine o (.inl rfl) (L rfl) (mv rfl) rfl ?_
    refine o (.inl rfl) (L rfl) (asn rfl) rfl ?_
    refine onil ?_
    refine xthn ?_
    refine cseq ?_
    refine creg ?_
    refine o (.inl rfl) (L rfl) (mv rfl) rfl ?_
    refine o (.inl rfl) (L rfl) (mv rfl) rfl ?_
    refine o (.inl rfl) (L rfl) (mv rfl) rfl ?_
    first | refine o (.inl rfl) (L rfl) (ixl rfl rfl li40 rfl (by first | omega | (simp; omega)) (by first | omega | (simp; omega))) rfl ?_ | refine o (.inl rfl) (L rfl) (ixo rfl rfl rfl li40 rfl (by first | omega | (simp; omega)) (by first | omega | (simp; omega))) rfl ?_
    first | refine o (.inl rfl) (L rfl) (ldb rfl rfl rfl ti9) rfl ?_ | refine o (.inl rfl) (L rfl) (ldr rfl ti9) rfl ?_ | refine o (.inl rfl) (L rfl) (lde rfl rfl (by first | omega | (simp; omega)) (L rfl) rfl ti9) rfl ?_
    refine ocallv c_impl_areWords_1 _ [] [] rfl 1 (by repeat (first | exact .n | refine .c rfl (.c (.e rfl)) ?_ | refine .c rfl (.c (.o (by decide) rfl)) ?_ | refine .c rfl (.c .n) ?_)) (by repeat (first | exact .n | refine .c (.e rfl) ?_ | refine .c (.o (by decide) rfl) ?_ | refine .c .n ?_)) (by first | trivial | (refine ?_; omega) | (simp only []; omega) | (constructor <;> omega) | assumption) (.inl rfl) (by decide) (by decide) (by repeat (first | exact .n | refine .c rfl rfl ?_)) (Le rfl) (.inl rfl) (L rfl) ?_
    refine onil ?_
    refine xthn ?_
    refine ccond rfl (fun c2 => ?_) (fun c2 => ?_)
    · try simp only [q1, q2, q3, q4, q5, q6, q7, q8, q9, q10, q11, q12, q13, q14, q15, q16, q17] at c2
      refine cseq ?_
      refine creg ?_
      refine o (.inl rfl) (L rfl) (mv rfl) rfl ?_
      refine o (.inl rfl) (L rfl) (asn rfl) rfl ?_
      refine onil ?_
      refine xthn ?_
      refine cret ?_
      refine xbr ?_
      refine xthr ?_
      refine xlr ?_
      refine xbr ?_
      refine xthr ?_
      refine retd rfl (.t rfl (.n)) (h0 hH) rfl ?_
      refine re ?_
      rw [i0.2, drop_ix (xs := a) (i := i) (z := KS.z) (by omega), fidx, if_pos (by simp [c2])]
    · try simp only [q1, q2, q3, q4, q5, q6, q7, q8, q9, q10, q11, q12, q13, q14, q15, q16, q17] at c2
      refine cskip ?_
      refine xbn ?_
      refine xthn ?_
      refine creg ?_
      refine o (.inl rfl) (L rfl) (iadd rfl rfl (by first | omega | (simp; omega)) (by first | omega | (simp; omega))) rfl ?_
      refine o (.inl rfl) (L rfl) (mv rfl) rfl ?_
      refine onil ?_
      refine xlq (i + 1) (by refine ⟨by omega, ?_⟩; rw [i0.2, drop_ix (xs := a) (i := i) (z := KS.z) (by omega), fidx, if_neg (by simp [c2])]; rfl) (by simp only []; omega) (weak [] (by decide) (h0 hH) (by repeat (first | exact .n | refine .c rfl (by first | rfl) ?_)) (by repeat (first | exact .n | refine .c rfl (by first | rfl | (simp; done)) ?_)))
  · try simp only [q1, q2, q3, q4, q5, q6, q7, q8, q9, q10, q11, q12, q13, q14, q15, q16, q17] at c1
    refine cexit ?_
    refine xthe ?_
    refine xle ?_
    refine xbh ?_
    refine xthn ?_
    refine cseq ?_
    refine creg ?_
    refine o (.inl rfl) (L rfl) (asn rfl) rfl ?_
    refine onil ?_
    refine xthn ?_
    refine cret ?_
    refine retd rfl (.t rfl (.n)) (h0 hH) rfl ?_
    refine re ?_
    rw [i0.2, drop_nil (xs := a) (i := i) (by omega), fidx]

theorem c_slices_ContainsFunc_string_string_areWords : Fe Go.Proofs.Try.prog 133 (ι := StrS) (fun a => [.c (.l KS) a, .fn 134 []]) (fun _ => []) (fun a => True) (fun a => (.c .b (a.any fun x => !word x.1), [])) := by
  refine fnE (n := 9) Go.Proofs.Try.func133 rfl rfl (ent Go.Proofs.Try.func133 (by kernel_rfl) rfl) ?_
  rintro a hx
  refine ⟨Le rfl, fun w0 S0 H Z hH => ?_⟩
  try simp only [] at hx
  refine cseq ?_
  refine creg ?_
  refine o (.inl rfl) (L rfl) (asn rfl) rfl ?_
  refine onil ?_
  refine xthn ?_
  refine cseq ?_
  refine creg ?_
  refine o (.inl rfl) (L rfl) (mv rfl) rfl ?_
  refine o (.inl rfl) (L rfl) (mv rfl) rfl ?_
  refine ocall c_slices_IndexFunc_string_string_areWords _ [] [] (by repeat (first | exact .n | refine .c rfl (.c (.e rfl)) ?_ | refine .c rfl (.c (.o (by decide) rfl)) ?_ | refine .c rfl (.c .n) ?_  | refine .c rfl (.g (by repeat (first | exact .n | refine .c (.e rfl) ?_ | refine .c (.o (by decide) rfl) ?_ | refine .c .n ?_))) ?_)) (by first | trivial | (refine ?_; omega) | (simp only []; omega) | (constructor <;> omega) | assumption) (.inl rfl) (by decide) (by decide) (by repeat (first | exact .n | refine .c rfl rfl ?_)) (Le rfl) (.inl rfl) (L rfl) ?_
  refine o (.inl rfl) (L rfl) (ibin rfl rfl rfl) rfl ?_
  refine o (.inl rfl) (L rfl) (asn rfl) rfl ?_
  refine onil ?_
  refine xthn ?_
  refine cret ?_
  refine retd rfl (.t rfl (.n)) (h0 hH) rfl ?_
  refine re ?_
  exact (fidx_any _ a 0 (by omega)).symm

theorem c_impl_areWords : Fe Go.Proofs.Try.prog 87 (ι := StrS) (fun p => [.c (.l KS) p]) (fun _ => []) (fun p => True) (fun p => (.c .b (path p), [])) := by
  refine fnE (n := 11) Go.Proofs.Try.func87 rfl rfl (ent Go.Proofs.Try.func87 (by kernel_rfl) rfl) ?_
  rintro p hx
  refine ⟨Le rfl, fun w0 S0 H Z hH => ?_⟩
  try simp only [] at hx
  refine cseq ?_
  refine creg ?_
  refine o (.inl rfl) (L rfl) (asn rfl) rfl ?_
  refine onil ?_
  refine xthn ?_
  refine cseq ?_
  refine creg ?_
  refine o (.inl rfl) (L rfl) (mv rfl) rfl ?_
  first | refine ofact (t := 3) rfl fun hl1 => ?_ | refine ofacts (t := 3) rfl fun hl1 => ?_ | skip
  first | refine o (.inl rfl) (L rfl) (lenl rfl li40) rfl ?_ | refine o (.inl rfl) (L rfl) (leno rfl rfl li40) rfl ?_ | refine o (.inl rfl) (L rfl) (lennl rfl li40) rfl ?_
  refine ocall c_impl_within (_, _, _) [] [] (by repeat (first | exact .n | refine .c rfl (.c (.e rfl)) ?_ | refine .c rfl (.c (.o (by decide) rfl)) ?_ | refine .c rfl (.c .n) ?_  | refine .c rfl (.g (by repeat (first | exact .n | refine .c (.e rfl) ?_ | refine .c (.o (by decide) rfl) ?_ | refine .c .n ?_))) ?_)) (by first | trivial | (refine ?_; omega) | (simp only []; omega) | (constructor <;> omega) | assumption) (.inl rfl) (by decide) (by decide) (by repeat (first | exact .n | refine .c rfl rfl ?_)) (Le rfl) (.inl rfl) (L rfl) ?_
  refine o (.inl rfl) (L rfl) (mv rfl) rfl ?_
  refine ocase (t := 6) rfl (fun c1 => ?_) (fun c1 => ?_)
  · try simp only [q1, q2, q3, q4, q5, q6, q7, q8, q9, q10, q11, q12, q13, q14, q15, q16, q17] at c1
    refine o (.inr ⟨_, _, _, rfl, rfl, rfl⟩) (L rfl) (mv rfl) rfl ?_
    refine ocall c_slices_ContainsFunc_string_string_areWords _ [] [] (by repeat (first | exact .n | refine .c rfl (.c (.e rfl)) ?_ | refine .c rfl (.c (.o (by decide) rfl)) ?_ | refine .c rfl (.c .n) ?_  | refine .c rfl (.g (by repeat (first | exact .n | refine .c (.e rfl) ?_ | refine .c (.o (by decide) rfl) ?_ | refine .c .n ?_))) ?_)) (by first | trivial | (refine ?_; omega) | (simp only []; omega) | (constructor <;> omega) | assumption) (.inr ⟨_, _, _, rfl, rfl, rfl⟩) (by decide) (by decide) (by repeat (first | exact .n | refine .c rfl rfl ?_)) (Le rfl) (.inl rfl) (L rfl) ?_
    refine o (.inr ⟨_, _, _, rfl, rfl, rfl⟩) (L rfl) (unot rfl) rfl ?_
    refine o (.inl rfl) (L rfl) (pickT rfl rfl) rfl ?_
    refine o (.inl rfl) (L rfl) (asn rfl) rfl ?_
    refine onil ?_
    refine xthn ?_
    refine cret ?_
    refine retd rfl (.t rfl (.n)) (h0 hH) rfl ?_
    refine re ?_
    rw [path_eq, decide_eq_true c1, Bool.true_and]
  · try simp only [q1, q2, q3, q4, q5, q6, q7, q8, q9, q10, q11, q12, q13, q14, q15, q16, q17] at c1
    refine oskip rfl rfl rfl rfl rfl (L rfl) ?_
    refine oskip rfl rfl rfl rfl rfl (L rfl) ?_
    refine oskip rfl rfl rfl rfl rfl (L rfl) ?_
    refine o (.inl rfl) (L rfl) (pickF rfl rfl) rfl ?_
    refine o (.inl rfl) (L rfl) (asn rfl) rfl ?_
    refine onil ?_
    refine xthn ?_
    refine cret ?_
    refine retd rfl (.t rfl (.n)) (h0 hH) rfl ?_
    refine re ?_
    rw [path_eq, decide_eq_false c1, Bool.false_and]

theorem c_slices_Equal_string_string : Fe Go.Proofs.Try.prog 139 (ι := StrS × StrS) (fun | (a, b) => [.c (.l KS) a, .c (.l KS) b]) (fun _ => []) (fun | (a, b) => True) (fun | (a, b) => (.c .b (decide (a = b)), [])) := by
  refine fnE (n := 26) Go.Proofs.Try.func139 rfl rfl (ent Go.Proofs.Try.func139 (by kernel_rfl) rfl) ?_
  rintro ⟨a, b⟩ hx
  refine ⟨Le rfl, fun w0 S0 H Z hH => ?_⟩
  try simp only [] at hx
  refine cseq ?_
  refine creg ?_
  refine o (.inl rfl) (L rfl) (asn rfl) rfl ?_
  refine onil ?_
  refine xthn ?_
  refine cseq ?_
  refine cseq ?_
  refine creg ?_
  refine o (.inl rfl) (L rfl) (mv rfl) rfl ?_
  first | refine ofact (t := 6) rfl fun hl1 => ?_ | refine ofacts (t := 6) rfl fun hl1 => ?_ | skip
  first | refine o (.inl rfl) (L rfl) (lenl rfl li40) rfl ?_ | refine o (.inl rfl) (L rfl) (leno rfl rfl li40) rfl ?_ | refine o (.inl rfl) (L rfl) (lennl rfl li40) rfl ?_
  refine o (.inl rfl) (L rfl) (mv rfl) rfl ?_
  first | refine ofact (t := 8) rfl fun hl2 => ?_ | refine ofacts (t := 8) rfl fun hl2 => ?_ | skip
  first | refine o (.inl rfl) (L rfl) (lenl rfl li40) rfl ?_ | refine o (.inl rfl) (L rfl) (leno rfl rfl li40) rfl ?_ | refine o (.inl rfl) (L rfl) (lennl rfl li40) rfl ?_
  refine o (.inl rfl) (L rfl) (ibin rfl rfl rfl) rfl ?_
  refine onil ?_
  refine xthn ?_
  refine ccond rfl (fun c1 => ?_) (fun c1 => ?_)
  · try simp only [q1, q2, q3, q4, q5, q6, q7, q8, q9, q10, q11, q12, q13, q14, q15, q16, q17] at c1
    refine cseq ?_
    refine creg ?_
    refine o (.inl rfl) (L rfl) (asn rfl) rfl ?_
    refine onil ?_
    refine xthn ?_
    refine cret ?_
    refine xthr ?_
    refine retd rfl (.t rfl (.n)) (h0 hH) rfl ?_
    refine re ?_
    exact decide_eq_false (fun e => c1 (by rw [e]))
  · try simp only [q1, q2, q3, q4, q5, q6, q7, q8, q9, q10, q11, q12, q13, q14, q15, q16, q17] at c1
    refine cskip ?_
    refine xthn ?_
    refine cseq ?_
    refine cseq ?_
    refine creg ?_
    refine o (.inl rfl) (L rfl) (mv rfl) rfl ?_
    first | refine ofact (t := 11) rfl fun hl3 => ?_ | refine ofacts (t := 11) rfl fun hl3 => ?_ | skip
    first | refine o (.inl rfl) (L rfl) (lenl rfl li40) rfl ?_ | refine o (.inl rfl) (L rfl) (leno rfl rfl li40) rfl ?_ | refine o (.inl rfl) (L rfl) (lennl rfl li40) rfl ?_
    refine o (.inl rfl) (L rfl) (mv rfl) rfl ?_
    refine onil ?_
    refine xthn ?_
    refine cblock ?_
    refine cloop (ι := Nat) (fun | i => [(0, .c (.l KS) a), (1, .c (.l KS) b), (12, .c (.i .i64) (a.length : Int)), (13, .c (.i .i64) (i : Int))]) (fun | i => []) (fun | i => i ≤ a.length ∧ a.length = b.length ∧ a.take i = b.take i) (fun | i => a.length - i) 0 (by simp; omega) (weak [] (by decide) (h0 hH) (by repeat (first | exact .n | refine .c rfl (by first | rfl) ?_)) (by repeat (first | exact .n | refine .c rfl (by first | rfl | (simp; done)) ?_))) ?_
    rintro i i0
    try simp only [] at i0
    refine cseq ?_
    refine creg ?_
    refine o (.inl rfl) (L rfl) (ibin rfl rfl rfl) rfl ?_
    refine onil ?_
    refine xthn ?_
    refine cseq ?_
    refine ccond rfl (fun c2 => ?_) (fun c2 => ?_)
    · try simp only [q1, q2, q3, q4, q5, q6, q7, q8, q9, q10, q11, q12, q13, q14, q15, q16, q17] at c2
      refine cskip ?_
      refine xthn ?_
      refine cseq ?_
      refine cblock ?_
      refine cseq ?_
      refine creg ?_
      refine o (.inl rfl) (L rfl) (mv rfl) rfl ?_
      refine o (.inl rfl) (L rfl) (asn rfl) rfl ?_
      refine onil ?_
      refine xthn ?_
      refine cseq ?_
      refine cregd mixed (by kernel_rfl) ?_
      refine qo (.inl rfl) (L rfl) (mv rfl) rfl ?_
      refine qo (.inl rfl) (L rfl) (mv rfl) rfl ?_
      first | refine qo (.inl rfl) (L rfl) (ixl rfl rfl li40 rfl (by first | omega | (simp; omega)) (by first | omega | (simp; omega))) rfl ?_ | refine qo (.inl rfl) (L rfl) (ixo rfl rfl rfl li40 rfl (by first | omega | (simp; omega)) (by first | omega | (simp; omega))) rfl ?_
      first | refine qo (.inl rfl) (L rfl) (ldb rfl rfl rfl ti9) rfl ?_ | refine qo (.inl rfl) (L rfl) (ldr rfl ti9) rfl ?_ | refine qo (.inl rfl) (L rfl) (lde rfl rfl (by first | omega | (simp; omega)) (L rfl) rfl ti9) rfl ?_
      refine qo (.inl rfl) (L rfl) (mv rfl) rfl ?_
      refine qo (.inl rfl) (L rfl) (mv rfl) rfl ?_
      first | refine qo (.inl rfl) (L rfl) (ixl rfl rfl li40 rfl (by first | omega | (simp; omega)) (by first | omega | (simp; omega))) rfl ?_ | refine qo (.inl rfl) (L rfl) (ixo rfl rfl rfl li40 rfl (by first | omega | (simp; omega)) (by first | omega | (simp; omega))) rfl ?_
      first | refine qo (.inl rfl) (L rfl) (ldb rfl rfl rfl ti9) rfl ?_ | refine qo (.inl rfl) (L rfl) (ldr rfl ti9) rfl ?_ | refine qo (.inl rfl) (L rfl) (lde rfl rfl (by first | omega | (simp; omega)) (L rfl) rfl ti9) rfl ?_
      refine qo (.inl rfl) (L rfl) (sbin rfl rfl rfl) rfl ?_
      refine qnil ?_
      refine xthn ?_
      refine ccond rfl (fun c3 => ?_) (fun c3 => ?_)
      · try simp only [q1, q2, q3, q4, q5, q6, q7, q8, q9, q10, q11, q12, q13, q14, q15, q16, q17] at c3
        refine cseq ?_
        refine creg ?_
        refine o (.inl rfl) (L rfl) (asn rfl) rfl ?_
        refine onil ?_
        refine xthn ?_
        refine cret ?_
        refine xbr ?_
        refine xthr ?_
        refine xlr ?_
        refine xbr ?_
        refine xthr ?_
        refine retd rfl (.t rfl (.n)) (h0 hH) rfl ?_
        refine re ?_
        exact decide_eq_false (fun e => c3 (by rw [e]))
      · try simp only [q1, q2, q3, q4, q5, q6, q7, q8, q9, q10, q11, q12, q13, q14, q15, q16, q17] at c3
        refine cskip ?_
        refine xbn ?_
        refine xthn ?_
        refine creg ?_
        refine o (.inl rfl) (L rfl) (iadd rfl rfl (by first | omega | (simp; omega)) (by first | omega | (simp; omega))) rfl ?_
        refine o (.inl rfl) (L rfl) (mv rfl) rfl ?_
        refine onil ?_
        refine xlq (i + 1) (by refine ⟨by omega, i0.2.1, ?_⟩; rw [take_ix (z := KS.z) (by omega), take_ix (z := KS.z) (by omega), i0.2.2]; exact congrArg (fun q => List.take i b ++ [q]) (Prod.ext c3 rfl)) (by simp only []; omega) (weak [] (by decide) (h0 hH) (by repeat (first | exact .n | refine .c rfl (by first | rfl) ?_)) (by repeat (first | exact .n | refine .c rfl (by first | rfl | (simp; done)) ?_)))
    · try simp only [q1, q2, q3, q4, q5, q6, q7, q8, q9, q10, q11, q12, q13, q14, q15, q16, q17] at c2
      refine cexit ?_
      refine xthe ?_
      refine xle ?_
      refine xbh ?_
      refine xthn ?_
      refine cseq ?_
      refine creg ?_
      refine o (.inl rfl) (L rfl) (asn rfl) rfl ?_
      refine onil ?_
      refine xthn ?_
      refine cret ?_
      refine retd rfl (.t rfl (.n)) (h0 hH) rfl ?_
      refine re ?_
      exact decide_eq_true (take_all i0.2.2 (by omega) (by omega))

theorem c_impl_begins : Fe Go.Proofs.Try.prog 92 (ι := StrS × StrS) (fun | (a, b) => [.c (.l KS) a, .c (.l KS) b]) (fun _ => []) (fun | (a, b) => True) (fun | (a, b) => (.c .b (beg a b), [])) := by
  refine fnE (n := 18) Go.Proofs.Try.func92 rfl rfl (ent Go.Proofs.Try.func92 (by kernel_rfl) rfl) ?_
  rintro ⟨a, b⟩ hx
  refine ⟨Le rfl, fun w0 S0 H Z hH => ?_⟩
  try simp only [] at hx
  refine cseq ?_
  refine creg ?_
  refine o (.inl rfl) (L rfl) (asn rfl) rfl ?_
  refine onil ?_
  refine xthn ?_
  refine cseq ?_
  refine creg ?_
  refine o (.inl rfl) (L rfl) (mv rfl) rfl ?_
  first | refine ofact (t := 5) rfl fun hl1 => ?_ | refine ofacts (t := 5) rfl fun hl1 => ?_ | skip
  first | refine o (.inl rfl) (L rfl) (lenl rfl li40) rfl ?_ | refine o (.inl rfl) (L rfl) (leno rfl rfl li40) rfl ?_ | refine o (.inl rfl) (L rfl) (lennl rfl li40) rfl ?_
  refine o (.inl rfl) (L rfl) (mv rfl) rfl ?_
  first | refine ofact (t := 7) rfl fun hl2 => ?_ | refine ofacts (t := 7) rfl fun hl2 => ?_ | skip
  first | refine o (.inl rfl) (L rfl) (lenl rfl li40) rfl ?_ | refine o (.inl rfl) (L rfl) (leno rfl rfl li40) rfl ?_ | refine o (.inl rfl) (L rfl) (lennl rfl li40) rfl ?_
  refine o (.inl rfl) (L rfl) (ibin rfl rfl rfl) rfl ?_
  refine o (.inl rfl) (L rfl) (mv rfl) rfl ?_
  refine ocase (t := 10) rfl (fun c1 => ?_) (fun c1 => ?_)
  · try simp only [q1, q2, q3, q4, q5, q6, q7, q8, q9, q10, q11, q12, q13, q14, q15, q16, q17] at c1
    refine o (.inr ⟨_, _, _, rfl, rfl, rfl⟩) (L rfl) (mv rfl) rfl ?_
    refine o (.inr ⟨_, _, _, rfl, rfl, rfl⟩) (L rfl) (mv rfl) rfl ?_
    refine o (.inr ⟨_, _, _, rfl, rfl, rfl⟩) (L rfl) (mv rfl) rfl ?_
    first | refine ofact (t := 13) rfl fun hl3 => ?_ | refine ofacts (t := 13) rfl fun hl3 => ?_ | skip
    first | refine o (.inr ⟨_, _, _, rfl, rfl, rfl⟩) (L rfl) (lenl rfl li40) rfl ?_ | refine o (.inr ⟨_, _, _, rfl, rfl, rfl⟩) (L rfl) (leno rfl rfl li40) rfl ?_ | refine o (.inr ⟨_, _, _, rfl, rfl, rfl⟩) (L rfl) (lennl rfl li40) rfl ?_
    refine o (.inr ⟨_, _, _, rfl, rfl, rfl⟩) (L rfl) (cuth rfl rfl li40 rfl (by first | omega | (simp; omega)) (by first | omega | (simp; omega))) rfl ?_
    refine ocall c_slices_Equal_string_string (_, _) [] [] (by repeat (first | exact .n | refine .c rfl (.c (.e rfl)) ?_ | refine .c rfl (.c (.o (by decide) rfl)) ?_ | refine .c rfl (.c .n) ?_  | refine .c rfl (.g (by repeat (first | exact .n | refine .c (.e rfl) ?_ | refine .c (.o (by decide) rfl) ?_ | refine .c .n ?_))) ?_)) (by first | trivial | (refine ?_; omega) | (simp only []; omega) | (constructor <;> omega) | assumption) (.inr ⟨_, _, _, rfl, rfl, rfl⟩) (by decide) (by decide) (by repeat (first | exact .n | refine .c rfl rfl ?_)) (Le rfl) (.inl rfl) (L rfl) ?_
    refine o (.inl rfl) (L rfl) (pickT rfl rfl) rfl ?_
    refine o (.inl rfl) (L rfl) (asn rfl) rfl ?_
    refine onil ?_
    refine xthn ?_
    refine cret ?_
    refine retd rfl (.t rfl (.n)) (h0 hH) rfl ?_
    refine re ?_
    rw [beg_eq, decide_eq_true c1, Bool.true_and]; rfl
  · try simp only [q1, q2, q3, q4, q5, q6, q7, q8, q9, q10, q11, q12, q13, q14, q15, q16, q17] at c1
    refine oskip rfl rfl rfl rfl rfl (L rfl) ?_
    refine oskip rfl rfl rfl rfl rfl (L rfl) ?_
    refine oskip rfl rfl rfl rfl rfl (L rfl) ?_
    refine oskip rfl rfl rfl rfl rfl (L rfl) ?_
    refine oskip rfl rfl rfl rfl rfl (L rfl) ?_
    refine oskip rfl rfl rfl rfl rfl (L rfl) ?_
    refine o (.inl rfl) (L rfl) (pickF rfl rfl) rfl ?_
    refine o (.inl rfl) (L rfl) (asn rfl) rfl ?_
    refine onil ?_
    refine xthn ?_
    refine cret ?_
    refine retd rfl (.t rfl (.n)) (h0 hH) rfl ?_
    refine re ?_
    rw [beg_eq, decide_eq_false (by omega), Bool.false_and]

theorem c_cmp_isNaN_string : Fe Go.Proofs.Try.prog 158 (ι := List UInt8) (fun s => [.c .s s]) (fun _ => []) (fun s => True) (fun s => (.c .b false, [])) := by
  refine fnE (n := 6) Go.Proofs.Try.func158 rfl rfl (ent Go.Proofs.Try.func158 (by kernel_rfl) rfl) ?_
  rintro s hx
  refine ⟨Le rfl, fun w0 S0 H Z hH => ?_⟩
  try simp only [] at hx
  refine cseq ?_
  refine creg ?_
  refine o (.inl rfl) (L rfl) (asn rfl) rfl ?_
  refine onil ?_
  refine xthn ?_
  refine cseq ?_
  refine creg ?_
  refine o (.inl rfl) (L rfl) (mv rfl) rfl ?_
  refine o (.inl rfl) (L rfl) (mv rfl) rfl ?_
  refine o (.inl rfl) (L rfl) (sbin rfl rfl rfl) rfl ?_
  refine o (.inl rfl) (L rfl) (asn rfl) rfl ?_
  refine onil ?_
  refine xthn ?_
  refine cret ?_
  refine retd rfl (.t rfl (.n)) (h0 hH) rfl ?_
  refine re ?_
  simp

theorem c_cmp_Compare_string : Fe Go.Proofs.Try.prog 124 (ι := List UInt8 × List UInt8) (fun | (s, t) => [.c .s s, .c .s t]) (fun _ => []) (fun | (s, t) => True) (fun | (s, t) => (.c (.i .i64) (cmpT s t), [])) := by
  refine fnE (n := 20) Go.Proofs.Try.func124 rfl rfl (ent Go.Proofs.Try.func124 (by kernel_rfl) rfl) ?_
  rintro ⟨s, t⟩ hx
  refine ⟨Le rfl, fun w0 S0 H Z hH => ?_⟩
  try simp only [] at hx
  refine cseq ?_
  refine creg ?_
  refine o (.inl rfl) (L rfl) (asn rfl) rfl ?_
  refine onil ?_
  refine xthn ?_
  refine cseq ?_
  refine creg ?_
  refine o (.inl rfl) (L rfl) (mv rfl) rfl ?_
  refine ocall c_cmp_isNaN_string _ [] [] (by repeat (first | exact .n | refine .c rfl (.c (.e rfl)) ?_ | refine .c rfl (.c (.o (by decide) rfl)) ?_ | refine .c rfl (.c .n) ?_  | refine .c rfl (.g (by repeat (first | exact .n | refine .c (.e rfl) ?_ | refine .c (.o (by decide) rfl) ?_ | refine .c .n ?_))) ?_)) (by first | trivial | (refine ?_; omega) | (simp only []; omega) | (constructor <;> omega) | assumption) (.inl rfl) (by decide) (by decide) (by repeat (first | exact .n | refine .c rfl rfl ?_)) (Le rfl) (.inl rfl) (L rfl) ?_
  refine o (.inl rfl) (L rfl) (asn rfl) rfl ?_
  refine onil ?_
  refine xthn ?_
  refine cseq ?_
  refine creg ?_
  refine o (.inl rfl) (L rfl) (mv rfl) rfl ?_
  refine ocall c_cmp_isNaN_string _ [] [] (by repeat (first | exact .n | refine .c rfl (.c (.e rfl)) ?_ | refine .c rfl (.c (.o (by decide) rfl)) ?_ | refine .c rfl (.c .n) ?_  | refine .c rfl (.g (by repeat (first | exact .n | refine .c (.e rfl) ?_ | refine .c (.o (by decide) rfl) ?_ | refine .c .n ?_))) ?_)) (by first | trivial | (refine ?_; omega) | (simp only []; omega) | (constructor <;> omega) | assumption) (.inl rfl) (by decide) (by decide) (by repeat (first | exact .n | refine .c rfl rfl ?_)) (Le rfl) (.inl rfl) (L rfl) ?_
  refine o (.inl rfl) (L rfl) (asn rfl) rfl ?_
  refine onil ?_
  refine xthn ?_
  refine cseq ?_
  refine cseq ?_
  refine creg ?_
  refine o (.inl rfl) (L rfl) (mv rfl) rfl ?_
  refine onil ?_
  refine xthn ?_
  refine ccF rfl ?_
  refine cskip ?_
  refine xthn ?_
  refine cseq ?_
  refine cseq ?_
  refine creg ?_
  refine o (.inl rfl) (L rfl) (mv rfl) rfl ?_
  refine onil ?_
  refine xthn ?_
  refine ccF rfl ?_
  refine cskip ?_
  refine xthn ?_
  refine cseq ?_
  refine cseq ?_
  refine creg ?_
  refine o (.inl rfl) (L rfl) (mv rfl) rfl ?_
  refine o (.inl rfl) (L rfl) (mv rfl) rfl ?_
  refine o (.inl rfl) (L rfl) (sbin rfl rfl rfl) rfl ?_
  refine onil ?_
  refine xthn ?_
  refine ccond rfl (fun c1 => ?_) (fun c1 => ?_)
  · try simp only [q1, q2, q3, q4, q5, q6, q7, q8, q9, q10, q11, q12, q13, q14, q15, q16, q17] at c1
    refine cseq ?_
    refine creg ?_
    refine o (.inl rfl) (L rfl) (asn rfl) rfl ?_
    refine onil ?_
    refine xthn ?_
    refine cret ?_
    refine xthr ?_
    refine retd rfl (.t rfl (.n)) (h0 hH) rfl ?_
    refine re ?_
    simp [cmpT, c1]
  · try simp only [q1, q2, q3, q4, q5, q6, q7, q8, q9, q10, q11, q12, q13, q14, q15, q16, q17] at c1
    refine cskip ?_
    refine xthn ?_
    refine cseq ?_
    refine cseq ?_
    refine creg ?_
    refine o (.inl rfl) (L rfl) (mv rfl) rfl ?_
    refine o (.inl rfl) (L rfl) (mv rfl) rfl ?_
    refine o (.inl rfl) (L rfl) (sbin rfl rfl rfl) rfl ?_
    refine onil ?_
    refine xthn ?_
    refine ccond rfl (fun c2 => ?_) (fun c2 => ?_)
    · try simp only [q1, q2, q3, q4, q5, q6, q7, q8, q9, q10, q11, q12, q13, q14, q15, q16, q17] at c2
      refine cseq ?_
      refine creg ?_
      refine o (.inl rfl) (L rfl) (asn rfl) rfl ?_
      refine onil ?_
      refine xthn ?_
      refine cret ?_
      refine xthr ?_
      refine retd rfl (.t rfl (.n)) (h0 hH) rfl ?_
      refine re ?_
      rw [cmpT, if_neg (by simp [c1]), if_pos (by simp_all)]
    · try simp only [q1, q2, q3, q4, q5, q6, q7, q8, q9, q10, q11, q12, q13, q14, q15, q16, q17] at c2
      refine cskip ?_
      refine xthn ?_
      refine cseq ?_
      refine creg ?_
      refine o (.inl rfl) (L rfl) (asn rfl) rfl ?_
      refine onil ?_
      refine xthn ?_
      refine cret ?_
      refine retd rfl (.t rfl (.n)) (h0 hH) rfl ?_
      refine re ?_
      rw [cmpT, if_neg (by simp [c1]), if_neg (by simp_all)]

theorem c_slices_Compare_string_string : Fe Go.Proofs.Try.prog 69 (ι := StrS × StrS) (fun | (a, b) => [.c (.l KS) a, .c (.l KS) b]) (fun _ => []) (fun | (a, b) => True) (fun | (a, b) => (.c (.i .i64) (cmpS a b), [])) := by
  refine fnE (n := 36) Go.Proofs.Try.func69 rfl rfl (ent Go.Proofs.Try.func69 (by kernel_rfl) rfl) ?_
  rintro ⟨a, b⟩ hx
  refine ⟨Le rfl, fun w0 S0 H Z hH => ?_⟩
  try simp only [] at hx
  refine cseq ?_
  refine creg ?_
  refine o (.inl rfl) (L rfl) (asn rfl) rfl ?_
  refine onil ?_
  refine xthn ?_
  refine cseq ?_
  refine cseq ?_
  refine creg ?_
  refine o (.inl rfl) (L rfl) (mv rfl) rfl ?_
  first | refine ofact (t := 9) rfl fun hl1 => ?_ | refine ofacts (t := 9) rfl fun hl1 => ?_ | skip
  first | refine o (.inl rfl) (L rfl) (lenl rfl li40) rfl ?_ | refine o (.inl rfl) (L rfl) (leno rfl rfl li40) rfl ?_ | refine o (.inl rfl) (L rfl) (lennl rfl li40) rfl ?_
  refine o (.inl rfl) (L rfl) (mv rfl) rfl ?_
  refine onil ?_
  refine xthn ?_
  refine cblock ?_
  refine cloop (ι := Nat) (fun | i => [(0, .c (.l KS) a), (1, .c (.l KS) b), (9, .c (.l KS) a), (10, .c (.i .i64) (a.length : Int)), (11, .c (.i .i64) (i : Int))]) (fun | i => []) (fun | i => i ≤ a.length ∧ i ≤ b.length ∧ cmpS a b = cmpS (a.drop i) (b.drop i)) (fun | i => a.length - i) 0 (by simp) (weak [] (by decide) (h0 hH) (by repeat (first | exact .n | refine .c rfl (by first | rfl) ?_)) (by repeat (first | exact .n | refine .c rfl (by first | rfl | (simp; done)) ?_))) ?_
  rintro i i0
  try simp only [] at i0
  refine cseq ?_
  refine creg ?_
  refine o (.inl rfl) (L rfl) (ibin rfl rfl rfl) rfl ?_
  refine onil ?_
  refine xthn ?_
  refine cseq ?_
  refine ccond rfl (fun c1 => ?_) (fun c1 => ?_)
  · try simp only [q1, q2, q3, q4, q5, q6, q7, q8, q9, q10, q11, q12, q13, q14, q15, q16, q17] at c1
    refine cskip ?_
    refine xthn ?_
    refine cseq ?_
    refine cblock ?_
    refine cseq ?_
    refine creg ?_
    refine o (.inl rfl) (L rfl) (mv rfl) rfl ?_
    first | refine o (.inl rfl) (L rfl) (ixl rfl rfl li40 rfl (by first | omega | (simp; omega)) (by first | omega | (simp; omega))) rfl ?_ | refine o (.inl rfl) (L rfl) (ixo rfl rfl rfl li40 rfl (by first | omega | (simp; omega)) (by first | omega | (simp; omega))) rfl ?_
    first | refine o (.inl rfl) (L rfl) (ldb rfl rfl rfl ti9) rfl ?_ | refine o (.inl rfl) (L rfl) (ldr rfl ti9) rfl ?_ | refine o (.inl rfl) (L rfl) (lde rfl rfl (by first | omega | (simp; omega)) (L rfl) rfl ti9) rfl ?_
    refine o (.inl rfl) (L rfl) (asn rfl) rfl ?_
    refine o (.inl rfl) (L rfl) (asn rfl) rfl ?_
    refine onil ?_
    refine xthn ?_
    refine cseq ?_
    refine cseq ?_
    refine creg ?_
    refine o (.inl rfl) (L rfl) (mv rfl) rfl ?_
    refine o (.inl rfl) (L rfl) (mv rfl) rfl ?_
    first | refine ofact (t := 17) rfl fun hl2 => ?_ | refine ofacts (t := 17) rfl fun hl2 => ?_ | skip
    first | refine o (.inl rfl) (L rfl) (lenl rfl li40) rfl ?_ | refine o (.inl rfl) (L rfl) (leno rfl rfl li40) rfl ?_ | refine o (.inl rfl) (L rfl) (lennl rfl li40) rfl ?_
    refine o (.inl rfl) (L rfl) (ibin rfl rfl rfl) rfl ?_
    refine onil ?_
    refine xthn ?_
    refine ccond rfl (fun c2 => ?_) (fun c2 => ?_)
    · try simp only [q1, q2, q3, q4, q5, q6, q7, q8, q9, q10, q11, q12, q13, q14, q15, q16, q17] at c2
      refine cseq ?_
      refine creg ?_
      refine o (.inl rfl) (L rfl) (asn rfl) rfl ?_
      refine onil ?_
      refine xthn ?_
      refine cret ?_
      refine xthr ?_
      refine xbr ?_
      refine xthr ?_
      refine xlr ?_
      refine xbr ?_
      refine xthr ?_
      refine retd rfl (.t rfl (.n)) (h0 hH) rfl ?_
      refine re ?_
      rw [i0.2.2, drop_ix (xs := a) (i := i) (z := KS.z) (by omega), drop_nil (xs := b) (i := i) (by omega), cmpS]
    · try simp only [q1, q2, q3, q4, q5, q6, q7, q8, q9, q10, q11, q12, q13, q14, q15, q16, q17] at c2
      refine cskip ?_
      refine xthn ?_
      refine cseq ?_
      refine creg ?_
      refine o (.inl rfl) (L rfl) (mv rfl) rfl ?_
      refine o (.inl rfl) (L rfl) (mv rfl) rfl ?_
      first | refine o (.inl rfl) (L rfl) (ixl rfl rfl li40 rfl (by first | omega | (simp; omega)) (by first | omega | (simp; omega))) rfl ?_ | refine o (.inl rfl) (L rfl) (ixo rfl rfl rfl li40 rfl (by first | omega | (simp; omega)) (by first | omega | (simp; omega))) rfl ?_
      first | refine o (.inl rfl) (L rfl) (ldb rfl rfl rfl ti9) rfl ?_ | refine o (.inl rfl) (L rfl) (ldr rfl ti9) rfl ?_ | refine o (.inl rfl) (L rfl) (lde rfl rfl (by first | omega | (simp; omega)) (L rfl) rfl ti9) rfl ?_
      refine o (.inl rfl) (L rfl) (asn rfl) rfl ?_
      refine onil ?_
      refine xthn ?_
      refine cseq ?_
      refine creg ?_
      refine o (.inl rfl) (L rfl) (mv rfl) rfl ?_
      refine o (.inl rfl) (L rfl) (mv rfl) rfl ?_
      refine ocall c_cmp_Compare_string (_, _) [] [] (by repeat (first | exact .n | refine .c rfl (.c (.e rfl)) ?_ | refine .c rfl (.c (.o (by decide) rfl)) ?_ | refine .c rfl (.c .n) ?_  | refine .c rfl (.g (by repeat (first | exact .n | refine .c (.e rfl) ?_ | refine .c (.o (by decide) rfl) ?_ | refine .c .n ?_))) ?_)) (by first | trivial | (refine ?_; omega) | (simp only []; omega) | (constructor <;> omega) | assumption) (.inl rfl) (by decide) (by decide) (by repeat (first | exact .n | refine .c rfl rfl ?_)) (Le rfl) (.inl rfl) (L rfl) ?_
      refine o (.inl rfl) (L rfl) (asn rfl) rfl ?_
      refine onil ?_
      refine xthn ?_
      refine cseq ?_
      refine creg ?_
      refine o (.inl rfl) (L rfl) (mv rfl) rfl ?_
      refine o (.inl rfl) (L rfl) (ibin rfl rfl rfl) rfl ?_
      refine onil ?_
      refine xthn ?_
      refine ccond rfl (fun c3 => ?_) (fun c3 => ?_)
      · try simp only [q1, q2, q3, q4, q5, q6, q7, q8, q9, q10, q11, q12, q13, q14, q15, q16, q17] at c3
        refine cseq ?_
        refine creg ?_
        refine o (.inl rfl) (L rfl) (mv rfl) rfl ?_
        refine o (.inl rfl) (L rfl) (asn rfl) rfl ?_
        refine onil ?_
        refine xthn ?_
        refine cret ?_
        refine xbr ?_
        refine xthr ?_
        refine xlr ?_
        refine xbr ?_
        refine xthr ?_
        refine retd rfl (.t rfl (.n)) (h0 hH) rfl ?_
        refine re ?_
        rw [i0.2.2, drop_ix (xs := a) (i := i) (z := KS.z) (by omega), drop_ix (xs := b) (i := i) (z := KS.z) (by omega), cmpS, if_neg c3]
      · try simp only [q1, q2, q3, q4, q5, q6, q7, q8, q9, q10, q11, q12, q13, q14, q15, q16, q17] at c3
        refine cskip ?_
        refine xbn ?_
        refine xthn ?_
        refine creg ?_
        refine o (.inl rfl) (L rfl) (iadd rfl rfl (by first | omega | (simp; omega)) (by first | omega | (simp; omega))) rfl ?_
        refine o (.inl rfl) (L rfl) (mv rfl) rfl ?_
        refine onil ?_
        refine xlq (i + 1) (by refine ⟨by omega, by omega, ?_⟩; rw [i0.2.2, drop_ix (xs := a) (i := i) (z := KS.z) (by omega), drop_ix (xs := b) (i := i) (z := KS.z) (by omega), cmpS, if_pos c3]) (by simp only []; omega) (weak [] (by decide) (h0 hH) (by repeat (first | exact .n | refine .c rfl (by first | rfl) ?_)) (by repeat (first | exact .n | refine .c rfl (by first | rfl | (simp; done)) ?_)))
  · try simp only [q1, q2, q3, q4, q5, q6, q7, q8, q9, q10, q11, q12, q13, q14, q15, q16, q17] at c1
    refine cexit ?_
    refine xthe ?_
    refine xle ?_
    refine xbh ?_
    refine xthn ?_
    refine cseq ?_
    refine cseq ?_
    refine creg ?_
    refine o (.inl rfl) (L rfl) (mv rfl) rfl ?_
    first | refine ofact (t := 31) rfl fun hl3 => ?_ | refine ofacts (t := 31) rfl fun hl3 => ?_ | skip
    first | refine o (.inl rfl) (L rfl) (lenl rfl li40) rfl ?_ | refine o (.inl rfl) (L rfl) (leno rfl rfl li40) rfl ?_ | refine o (.inl rfl) (L rfl) (lennl rfl li40) rfl ?_
    refine o (.inl rfl) (L rfl) (mv rfl) rfl ?_
    first | refine ofact (t := 33) rfl fun hl4 => ?_ | refine ofacts (t := 33) rfl fun hl4 => ?_ | skip
    first | refine o (.inl rfl) (L rfl) (lenl rfl li40) rfl ?_ | refine o (.inl rfl) (L rfl) (leno rfl rfl li40) rfl ?_ | refine o (.inl rfl) (L rfl) (lennl rfl li40) rfl ?_
    refine o (.inl rfl) (L rfl) (ibin rfl rfl rfl) rfl ?_
    refine onil ?_
    refine xthn ?_
    refine ccond rfl (fun c4 => ?_) (fun c4 => ?_)
    · try simp only [q1, q2, q3, q4, q5, q6, q7, q8, q9, q10, q11, q12, q13, q14, q15, q16, q17] at c4
      refine cseq ?_
      refine creg ?_
      refine o (.inl rfl) (L rfl) (asn rfl) rfl ?_
      refine onil ?_
      refine xthn ?_
      refine cret ?_
      refine xthr ?_
      refine retd rfl (.t rfl (.n)) (h0 hH) rfl ?_
      refine re ?_
      rw [i0.2.2, drop_nil (xs := a) (i := i) (by omega), cmpS, if_pos (by simp; omega)]
    · try simp only [q1, q2, q3, q4, q5, q6, q7, q8, q9, q10, q11, q12, q13, q14, q15, q16, q17] at c4
      refine cskip ?_
      refine xthn ?_
      refine cseq ?_
      refine creg ?_
      refine o (.inl rfl) (L rfl) (asn rfl) rfl ?_
      refine onil ?_
      refine xthn ?_
      refine cret ?_
      refine retd rfl (.t rfl (.n)) (h0 hH) rfl ?_
      refine re ?_
      rw [i0.2.2, drop_nil (xs := a) (i := i) (by omega), cmpS, if_neg (by simp; omega)]

end Go.Proofs.YtifpekpmnlcmoaaE
