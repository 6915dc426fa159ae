import Derived.Test.YtifpekpmnlcmoaaProg
import Derived.Test.YtifpekpmnlcmoaaE19
import Derived.Test.YtifpekpmnlcmoaaA4
set_option linter.unusedVariables false
set_option linter.unusedSimpArgs false
set_option maxRecDepth 100000
namespace Go.Proofs.YtifpekpmnlcmoaaE
open Go Go.RowKit Go.Shelf Go.Proofs

theorem tq {t : Ty} {x y : t.den} {f : Nat → Nat} (h : x = y) : AV.c t x = AV.ren f (AV.c t y) := by subst h; rfl
theorem drop_nil {α : Type} {xs : List α} {i : Nat} (h : xs.length ≤ i) : xs.drop i = [] := List.drop_eq_nil_of_le h
def less : StrS → StrS → Bool
  | [], b => decide (0 < b.length)
  | _ :: _, [] => false
  | x :: a, y :: b => if x.1 = y.1 then less a b else Op.bytesLess x.1 y.1
def beg : StrS → StrS → Bool
  | [], _ => true
  | _ :: _, [] => false
  | x :: a, y :: b => decide (x.1 = y.1) && beg a b
def stOK (l : Leafs) (i : Nat) : Bool := path (ix KRLSzSz.z l (i : Int)).1 && word (ix KRLSzSz.z l (i : Int)).2.1 && (decide (i = 0) || (less (ix KRLSzSz.z l ((i : Int) - 1)).1 (ix KRLSzSz.z l (i : Int)).1 && !beg (ix KRLSzSz.z l ((i : Int) - 1)).1 (ix KRLSzSz.z l (i : Int)).1))
def good (l : Leafs) : Bool := (List.range l.length).all (stOK l) && decide (l.length ≤ 30)
theorem good_no {l : Leafs} {i : Nat} (h : i < l.length) (hs : stOK l i = false) : good l = false := by
  have : (List.range l.length).all (stOK l) = false := List.all_eq_false.2 ⟨i, List.mem_range.2 h, by simp [hs]⟩
  rw [good, this]; rfl
theorem range_step {n : Nat} {p : Nat → Bool} (h : (List.range n).all p = true) (hp : p n = true) : (List.range (n + 1)).all p = true := by
  rw [List.range_succ, List.all_append, h]; simp [hp]
def blanks (n : Nat) : List UInt8 := List.replicate (2 * n) 32
theorem blanks_step (k : Nat) : blanks k ++ [32, 32] = blanks (k + 1) := by
  show List.replicate (2 * k) 32 ++ List.replicate 2 32 = List.replicate (2 * (k + 1)) 32
  rw [List.replicate_append_replicate, show 2 * k + 2 = 2 * (k + 1) by omega]

theorem c_spec_l15Less : Fe Go.Proofs.Try.prog 112 (ι := StrS × StrS) (fun | (a, b) => [.c (.l KS) a, .c (.l KS) b]) (fun _ => []) (fun | (a, b) => True) (fun | (a, b) => (.c .b (less a b), [])) := by
  refine fnE (n := 39) Go.Proofs.Try.func112 rfl rfl (ent Go.Proofs.Try.func112 (by kernel_rfl) rfl) ?_
  rintro ⟨a, b⟩ hx
  refine ⟨Le rfl, fun w0 S0 H Z hH => ?_⟩
  try simp only [] at hx
  refine cseq ?_
  refine creg ?_
  refine o (.inl rfl) (L rfl) (asn rfl) rfl ?_
  refine onil ?_
  refine xthn ?_
  refine cseq ?_
  refine cseq ?_
  refine creg ?_
  refine o (.inl rfl) (L rfl) (mv rfl) rfl ?_
  first | refine ofact (t := 6) rfl fun hl1 => ?_ | refine ofacts (t := 6) rfl fun hl1 => ?_ | skip
  first | refine o (.inl rfl) (L rfl) (lenl rfl li40) rfl ?_ | refine o (.inl rfl) (L rfl) (leno rfl rfl li40) rfl ?_ | refine o (.inl rfl) (L rfl) (lennl rfl li40) rfl ?_
  refine o (.inl rfl) (L rfl) (mv rfl) rfl ?_
  refine onil ?_
  refine xthn ?_
  refine cblock ?_
  refine cloop (ι := Nat) (fun | i => [(0, .c (.l KS) a), (1, .c (.l KS) b), (7, .c (.i .i64) (a.length : Int)), (8, .c (.i .i64) (i : Int))]) (fun | i => []) (fun | i => i ≤ a.length ∧ i ≤ b.length ∧ less a b = less (a.drop i) (b.drop i)) (fun | i => a.length - i) 0 (by simp) (weak [] (by decide) (h0 hH) (by repeat (first | exact .n | refine .c rfl (by first | rfl) ?_)) (by repeat (first | exact .n | refine .c rfl (by first | rfl | (simp; done)) ?_))) ?_
  rintro i i0
  try simp only [] at i0
  refine cseq ?_
  refine creg ?_
  refine o (.inl rfl) (L rfl) (ibin rfl rfl rfl) rfl ?_
  refine onil ?_
  refine xthn ?_
  refine cseq ?_
  refine ccond rfl (fun c1 => ?_) (fun c1 => ?_)
  · try simp only [q1, q2, q3, q4, q5, q6, q7, q8, q9, q10, q11, q12, q13, q14, q15, q16, q17] at c1
    refine cskip ?_
    refine xthn ?_
    refine cseq ?_
    refine cblock ?_
    refine cseq ?_
    refine creg ?_
    refine o (.inl rfl) (L rfl) (mv rfl) rfl ?_
    refine o (.inl rfl) (L rfl) (asn rfl) rfl ?_
    refine onil ?_
    refine xthn ?_
    refine cseq ?_
    refine cseq ?_
    refine creg ?_
    refine o (.inl rfl) (L rfl) (mv rfl) rfl ?_
    refine o (.inl rfl) (L rfl) (mv rfl) rfl ?_
    first | refine ofact (t := 12) rfl fun hl2 => ?_ | refine ofacts (t := 12) rfl fun hl2 => ?_ | skip
    first | refine o (.inl rfl) (L rfl) (lenl rfl li40) rfl ?_ | refine o (.inl rfl) (L rfl) (leno rfl rfl li40) rfl ?_ | refine o (.inl rfl) (L rfl) (lennl rfl li40) rfl ?_
    refine o (.inl rfl) (L rfl) (ibin rfl rfl rfl) rfl ?_
    refine onil ?_
    refine xthn ?_
    refine ccond rfl (fun c2 => ?_) (fun c2 => ?_)
    · try simp only [q1, q2, q3, q4, q5, q6, q7, q8, q9, q10, q11, q12, q13, q14, q15, q16, q17] at c2
      refine cseq ?_
      refine creg ?_
      refine o (.inl rfl) (L rfl) (asn rfl) rfl ?_
      refine onil ?_
      refine xthn ?_
      refine cret ?_
      refine xthr ?_
      refine xbr ?_
      refine xthr ?_
      refine xlr ?_
      refine xbr ?_
      refine xthr ?_
      refine retd rfl (.t rfl (.n)) (h0 hH) rfl ?_
      refine re ?_
      rw [i0.2.2, drop_ix (xs := a) (i := i) (z := KS.z) (by omega), drop_nil (xs := b) (i := i) (by omega), less]
    · try simp only [q1, q2, q3, q4, q5, q6, q7, q8, q9, q10, q11, q12, q13, q14, q15, q16, q17] at c2
      refine cskip ?_
      refine xthn ?_
      refine cseq ?_
      refine cregd mixed (by kernel_rfl) ?_
      refine qo (.inl rfl) (L rfl) (mv rfl) rfl ?_
      refine qo (.inl rfl) (L rfl) (mv rfl) rfl ?_
      first | refine qo (.inl rfl) (L rfl) (ixl rfl rfl li40 rfl (by first | omega | (simp; omega)) (by first | omega | (simp; omega))) rfl ?_ | refine qo (.inl rfl) (L rfl) (ixo rfl rfl rfl li40 rfl (by first | omega | (simp; omega)) (by first | omega | (simp; omega))) rfl ?_
      first | refine qo (.inl rfl) (L rfl) (ldb rfl rfl rfl ti9) rfl ?_ | refine qo (.inl rfl) (L rfl) (ldr rfl ti9) rfl ?_ | refine qo (.inl rfl) (L rfl) (lde rfl rfl (by first | omega | (simp; omega)) (L rfl) rfl ti9) rfl ?_
      refine qo (.inl rfl) (L rfl) (mv rfl) rfl ?_
      refine qo (.inl rfl) (L rfl) (mv rfl) rfl ?_
      first | refine qo (.inl rfl) (L rfl) (ixl rfl rfl li40 rfl (by first | omega | (simp; omega)) (by first | omega | (simp; omega))) rfl ?_ | refine qo (.inl rfl) (L rfl) (ixo rfl rfl rfl li40 rfl (by first | omega | (simp; omega)) (by first | omega | (simp; omega))) rfl ?_
      first | refine qo (.inl rfl) (L rfl) (ldb rfl rfl rfl ti9) rfl ?_ | refine qo (.inl rfl) (L rfl) (ldr rfl ti9) rfl ?_ | refine qo (.inl rfl) (L rfl) (lde rfl rfl (by first | omega | (simp; omega)) (L rfl) rfl ti9) rfl ?_
      refine qo (.inl rfl) (L rfl) (sbin rfl rfl rfl) rfl ?_
      refine qnil ?_
      refine xthn ?_
      refine ccond rfl (fun c3 => ?_) (fun c3 => ?_)
      · try simp only [q1, q2, q3, q4, q5, q6, q7, q8, q9, q10, q11, q12, q13, q14, q15, q16, q17] at c3
        refine cseq ?_
        refine cregd mixed (by kernel_rfl) ?_
        refine qo (.inl rfl) (L rfl) (mv rfl) rfl ?_
        refine qo (.inl rfl) (L rfl) (mv rfl) rfl ?_
        first | refine qo (.inl rfl) (L rfl) (ixl rfl rfl li40 rfl (by first | omega | (simp; omega)) (by first | omega | (simp; omega))) rfl ?_ | refine qo (.inl rfl) (L rfl) (ixo rfl rfl rfl li40 rfl (by first | omega | (simp; omega)) (by first | omega | (simp; omega))) rfl ?_
        first | refine qo (.inl rfl) (L rfl) (ldb rfl rfl rfl ti9) rfl ?_ | refine qo (.inl rfl) (L rfl) (ldr rfl ti9) rfl ?_ | refine qo (.inl rfl) (L rfl) (lde rfl rfl (by first | omega | (simp; omega)) (L rfl) rfl ti9) rfl ?_
        refine qo (.inl rfl) (L rfl) (mv rfl) rfl ?_
        refine qo (.inl rfl) (L rfl) (mv rfl) rfl ?_
        first | refine qo (.inl rfl) (L rfl) (ixl rfl rfl li40 rfl (by first | omega | (simp; omega)) (by first | omega | (simp; omega))) rfl ?_ | refine qo (.inl rfl) (L rfl) (ixo rfl rfl rfl li40 rfl (by first | omega | (simp; omega)) (by first | omega | (simp; omega))) rfl ?_
        first | refine qo (.inl rfl) (L rfl) (ldb rfl rfl rfl ti9) rfl ?_ | refine qo (.inl rfl) (L rfl) (ldr rfl ti9) rfl ?_ | refine qo (.inl rfl) (L rfl) (lde rfl rfl (by first | omega | (simp; omega)) (L rfl) rfl ti9) rfl ?_
        refine qo (.inl rfl) (L rfl) (sbin rfl rfl rfl) rfl ?_
        refine qo (.inl rfl) (L rfl) (asn rfl) rfl ?_
        refine qnil ?_
        refine xthn ?_
        refine cret ?_
        refine xbr ?_
        refine xthr ?_
        refine xlr ?_
        refine xbr ?_
        refine xthr ?_
        refine retd rfl (.t rfl (.n)) (h0 hH) rfl ?_
        refine re ?_
        rw [i0.2.2, drop_ix (xs := a) (i := i) (z := KS.z) (by omega), drop_ix (xs := b) (i := i) (z := KS.z) (by omega), less, if_neg c3]
      · try simp only [q1, q2, q3, q4, q5, q6, q7, q8, q9, q10, q11, q12, q13, q14, q15, q16, q17] at c3
        refine cskip ?_
        refine xbn ?_
        refine xthn ?_
        refine creg ?_
        refine o (.inl rfl) (L rfl) (iadd rfl rfl (by first | omega | (simp; omega)) (by first | omega | (simp; omega))) rfl ?_
        refine o (.inl rfl) (L rfl) (mv rfl) rfl ?_
        refine onil ?_
        refine xlq (i + 1) (by refine ⟨by omega, by omega, ?_⟩; rw [i0.2.2, drop_ix (xs := a) (i := i) (z := KS.z) (by omega), drop_ix (xs := b) (i := i) (z := KS.z) (by omega), less, if_pos c3]) (by simp only []; omega) (weak [] (by decide) (h0 hH) (by repeat (first | exact .n | refine .c rfl (by first | rfl) ?_)) (by repeat (first | exact .n | refine .c rfl (by first | rfl | (simp; done)) ?_)))
  · try simp only [q1, q2, q3, q4, q5, q6, q7, q8, q9, q10, q11, q12, q13, q14, q15, q16, q17] at c1
    refine cexit ?_
    refine xthe ?_
    refine xle ?_
    refine xbh ?_
    refine xthn ?_
    refine cseq ?_
    refine creg ?_
    refine o (.inl rfl) (L rfl) (mv rfl) rfl ?_
    first | refine ofact (t := 34) rfl fun hl3 => ?_ | refine ofacts (t := 34) rfl fun hl3 => ?_ | skip
    first | refine o (.inl rfl) (L rfl) (lenl rfl li40) rfl ?_ | refine o (.inl rfl) (L rfl) (leno rfl rfl li40) rfl ?_ | refine o (.inl rfl) (L rfl) (lennl rfl li40) rfl ?_
    refine o (.inl rfl) (L rfl) (mv rfl) rfl ?_
    first | refine ofact (t := 36) rfl fun hl4 => ?_ | refine ofacts (t := 36) rfl fun hl4 => ?_ | skip
    first | refine o (.inl rfl) (L rfl) (lenl rfl li40) rfl ?_ | refine o (.inl rfl) (L rfl) (leno rfl rfl li40) rfl ?_ | refine o (.inl rfl) (L rfl) (lennl rfl li40) rfl ?_
    refine o (.inl rfl) (L rfl) (ibin rfl rfl rfl) rfl ?_
    refine o (.inl rfl) (L rfl) (asn rfl) rfl ?_
    refine onil ?_
    refine xthn ?_
    refine cret ?_
    refine retd rfl (.t rfl (.n)) (h0 hH) rfl ?_
    refine re ?_
    rw [i0.2.2, drop_nil (xs := a) (i := i) (by omega), less]; refine decide_eq_decide.2 ?_; simp; omega

theorem c_spec_l15Begins : Fe Go.Proofs.Try.prog 113 (ι := StrS × StrS) (fun | (a, b) => [.c (.l KS) a, .c (.l KS) b]) (fun _ => []) (fun | (a, b) => True) (fun | (a, b) => (.c .b (beg a b), [])) := by
  refine fnE (n := 27) Go.Proofs.Try.func113 rfl rfl (ent Go.Proofs.Try.func113 (by kernel_rfl) rfl) ?_
  rintro ⟨a, b⟩ hx
  refine ⟨Le rfl, fun w0 S0 H Z hH => ?_⟩
  try simp only [] at hx
  refine cseq ?_
  refine creg ?_
  refine o (.inl rfl) (L rfl) (asn rfl) rfl ?_
  refine onil ?_
  refine xthn ?_
  refine cseq ?_
  refine cseq ?_
  refine creg ?_
  refine o (.inl rfl) (L rfl) (mv rfl) rfl ?_
  first | refine ofact (t := 6) rfl fun hl1 => ?_ | refine ofacts (t := 6) rfl fun hl1 => ?_ | skip
  first | refine o (.inl rfl) (L rfl) (lenl rfl li40) rfl ?_ | refine o (.inl rfl) (L rfl) (leno rfl rfl li40) rfl ?_ | refine o (.inl rfl) (L rfl) (lennl rfl li40) rfl ?_
  refine o (.inl rfl) (L rfl) (mv rfl) rfl ?_
  refine onil ?_
  refine xthn ?_
  refine cblock ?_
  refine cloop (ι := Nat) (fun | i => [(0, .c (.l KS) a), (1, .c (.l KS) b), (7, .c (.i .i64) (a.length : Int)), (8, .c (.i .i64) (i : Int))]) (fun | i => []) (fun | i => i ≤ a.length ∧ i ≤ b.length ∧ beg a b = beg (a.drop i) (b.drop i)) (fun | i => a.length - i) 0 (by simp) (weak [] (by decide) (h0 hH) (by repeat (first | exact .n | refine .c rfl (by first | rfl) ?_)) (by repeat (first | exact .n | refine .c rfl (by first | rfl | (simp; done)) ?_))) ?_
  rintro i i0
  try simp only [] at i0
  refine cseq ?_
  refine creg ?_
  refine o (.inl rfl) (L rfl) (ibin rfl rfl rfl) rfl ?_
  refine onil ?_
  refine xthn ?_
  refine cseq ?_
  refine ccond rfl (fun c1 => ?_) (fun c1 => ?_)
  · try simp only [q1, q2, q3, q4, q5, q6, q7, q8, q9, q10, q11, q12, q13, q14, q15, q16, q17] at c1
    refine cskip ?_
    refine xthn ?_
    refine cseq ?_
    refine cblock ?_
    refine cseq ?_
    refine creg ?_
    refine o (.inl rfl) (L rfl) (mv rfl) rfl ?_
    refine o (.inl rfl) (L rfl) (asn rfl) rfl ?_
    refine onil ?_
    refine xthn ?_
    refine cseq ?_
    refine cregd mixed (by kernel_rfl) ?_
    refine qo (.inl rfl) (L rfl) (mv rfl) rfl ?_
    refine qo (.inl rfl) (L rfl) (mv rfl) rfl ?_
    first | refine qfact (t := 12) rfl fun hl2 => ?_ | refine qfacts (t := 12) rfl fun hl2 => ?_ | skip
    first | refine qo (.inl rfl) (L rfl) (lenl rfl li40) rfl ?_ | refine qo (.inl rfl) (L rfl) (leno rfl rfl li40) rfl ?_ | refine qo (.inl rfl) (L rfl) (lennl rfl li40) rfl ?_
    refine qo (.inl rfl) (L rfl) (ibin rfl rfl rfl) rfl ?_
    refine qo (.inl rfl) (L rfl) (mv rfl) rfl ?_
    refine qcase (t := 15) rfl (fun c2 => ?_) (fun c2 => ?_)
    · try simp only [q1, q2, q3, q4, q5, q6, q7, q8, q9, q10, q11, q12, q13, q14, q15, q16, q17] at c2
      refine qskip rfl rfl rfl rfl rfl (L rfl) ?_
      refine qskip rfl rfl rfl rfl rfl (L rfl) ?_
      refine qskip rfl rfl rfl rfl rfl (L rfl) ?_
      refine qskip rfl rfl rfl rfl rfl (L rfl) ?_
      refine qskip rfl rfl rfl rfl rfl (L rfl) ?_
      refine qskip rfl rfl rfl rfl rfl (L rfl) ?_
      refine qskip rfl rfl rfl rfl rfl (L rfl) ?_
      refine qskip rfl rfl rfl rfl rfl (L rfl) ?_
      refine qskip rfl rfl rfl rfl rfl (L rfl) ?_
      refine qo (.inl rfl) (L rfl) (pickT rfl rfl) rfl ?_
      refine qnil ?_
      refine xthn ?_
      refine ccT rfl ?_
      refine cseq ?_
      refine creg ?_
      refine o (.inl rfl) (L rfl) (asn rfl) rfl ?_
      refine onil ?_
      refine xthn ?_
      refine cret ?_
      refine xbr ?_
      refine xthr ?_
      refine xlr ?_
      refine xbr ?_
      refine xthr ?_
      refine retd rfl (.t rfl (.n)) (h0 hH) rfl ?_
      refine re ?_
      rw [i0.2.2, drop_ix (xs := a) (i := i) (z := KS.z) (by omega), drop_nil (xs := b) (i := i) (by omega), beg]
    · try simp only [q1, q2, q3, q4, q5, q6, q7, q8, q9, q10, q11, q12, q13, q14, q15, q16, q17] at c2
      refine qo (.inr ⟨_, _, _, rfl, rfl, rfl⟩) (L rfl) (mv rfl) rfl ?_
      refine qo (.inr ⟨_, _, _, rfl, rfl, rfl⟩) (L rfl) (mv rfl) rfl ?_
      first | refine qo (.inr ⟨_, _, _, rfl, rfl, rfl⟩) (L rfl) (ixl rfl rfl li40 rfl (by first | omega | (simp; omega)) (by first | omega | (simp; omega))) rfl ?_ | refine qo (.inr ⟨_, _, _, rfl, rfl, rfl⟩) (L rfl) (ixo rfl rfl rfl li40 rfl (by first | omega | (simp; omega)) (by first | omega | (simp; omega))) rfl ?_
      first | refine qo (.inr ⟨_, _, _, rfl, rfl, rfl⟩) (L rfl) (ldb rfl rfl rfl ti9) rfl ?_ | refine qo (.inr ⟨_, _, _, rfl, rfl, rfl⟩) (L rfl) (ldr rfl ti9) rfl ?_ | refine qo (.inr ⟨_, _, _, rfl, rfl, rfl⟩) (L rfl) (lde rfl rfl (by first | omega | (simp; omega)) (L rfl) rfl ti9) rfl ?_
      refine qo (.inr ⟨_, _, _, rfl, rfl, rfl⟩) (L rfl) (mv rfl) rfl ?_
      refine qo (.inr ⟨_, _, _, rfl, rfl, rfl⟩) (L rfl) (mv rfl) rfl ?_
      first | refine qo (.inr ⟨_, _, _, rfl, rfl, rfl⟩) (L rfl) (ixl rfl rfl li40 rfl (by first | omega | (simp; omega)) (by first | omega | (simp; omega))) rfl ?_ | refine qo (.inr ⟨_, _, _, rfl, rfl, rfl⟩) (L rfl) (ixo rfl rfl rfl li40 rfl (by first | omega | (simp; omega)) (by first | omega | (simp; omega))) rfl ?_
      first | refine qo (.inr ⟨_, _, _, rfl, rfl, rfl⟩) (L rfl) (ldb rfl rfl rfl ti9) rfl ?_ | refine qo (.inr ⟨_, _, _, rfl, rfl, rfl⟩) (L rfl) (ldr rfl ti9) rfl ?_ | refine qo (.inr ⟨_, _, _, rfl, rfl, rfl⟩) (L rfl) (lde rfl rfl (by first | omega | (simp; omega)) (L rfl) rfl ti9) rfl ?_
      refine qo (.inr ⟨_, _, _, rfl, rfl, rfl⟩) (L rfl) (sbin rfl rfl rfl) rfl ?_
      refine qo (.inl rfl) (L rfl) (pickF rfl rfl) rfl ?_
      refine qnil ?_
      refine xthn ?_
      refine ccond rfl (fun c3 => ?_) (fun c3 => ?_)
      · try simp only [q1, q2, q3, q4, q5, q6, q7, q8, q9, q10, q11, q12, q13, q14, q15, q16, q17] at c3
        refine cseq ?_
        refine creg ?_
        refine o (.inl rfl) (L rfl) (asn rfl) rfl ?_
        refine onil ?_
        refine xthn ?_
        refine cret ?_
        refine xbr ?_
        refine xthr ?_
        refine xlr ?_
        refine xbr ?_
        refine xthr ?_
        refine retd rfl (.t rfl (.n)) (h0 hH) rfl ?_
        refine re ?_
        rw [i0.2.2, drop_ix (xs := a) (i := i) (z := KS.z) (by omega), drop_ix (xs := b) (i := i) (z := KS.z) (by omega), beg, decide_eq_false c3, Bool.false_and]
      · try simp only [q1, q2, q3, q4, q5, q6, q7, q8, q9, q10, q11, q12, q13, q14, q15, q16, q17] at c3
        refine cskip ?_
        refine xbn ?_
        refine xthn ?_
        refine creg ?_
        refine o (.inl rfl) (L rfl) (iadd rfl rfl (by first | omega | (simp; omega)) (by first | omega | (simp; omega))) rfl ?_
        refine o (.inl rfl) (L rfl) (mv rfl) rfl ?_
        refine onil ?_
        refine xlq (i + 1) (by refine ⟨by omega, by omega, ?_⟩; rw [i0.2.2, drop_ix (xs := a) (i := i) (z := KS.z) (by omega), drop_ix (xs := b) (i := i) (z := KS.z) (by omega), beg, decide_eq_true c3, Bool.true_and]) (by simp only []; omega) (weak [] (by decide) (h0 hH) (by repeat (first | exact .n | refine .c rfl (by first | rfl) ?_)) (by repeat (first | exact .n | refine .c rfl (by first | rfl | (simp; done)) ?_)))
  · try simp only [q1, q2, q3, q4, q5, q6, q7, q8, q9, q10, q11, q12, q13, q14, q15, q16, q17] at c1
    refine cexit ?_
    refine xthe ?_
    refine xle ?_
    refine xbh ?_
    refine xthn ?_
    refine cseq ?_
    refine creg ?_
    refine o (.inl rfl) (L rfl) (asn rfl) rfl ?_
    refine onil ?_
    refine xthn ?_
    refine cret ?_
    refine retd rfl (.t rfl (.n)) (h0 hH) rfl ?_
    refine re ?_
    rw [i0.2.2, drop_nil (xs := a) (i := i) (by omega), beg]

theorem c_spec_GoodConfig : Fe Go.Proofs.Try.prog 57 (ι := Leafs) (fun l => [.c (.l KRLSzSz) l]) (fun _ => []) (fun l => True) (fun l => (.c .b (good l), [])) := by
  refine fnE (n := 51) Go.Proofs.Try.func57 rfl rfl (ent Go.Proofs.Try.func57 (by kernel_rfl) rfl) ?_
  rintro l hx
  refine ⟨Le rfl, fun w0 S0 H Z hH => ?_⟩
  try simp only [] at hx
  refine cseq ?_
  refine creg ?_
  refine o (.inl rfl) (L rfl) (asn rfl) rfl ?_
  refine onil ?_
  refine xthn ?_
  refine cseq ?_
  refine cseq ?_
  refine creg ?_
  refine o (.inl rfl) (L rfl) (mv rfl) rfl ?_
  first | refine ofact (t := 5) rfl fun hl1 => ?_ | refine ofacts (t := 5) rfl fun hl1 => ?_ | skip
  first | refine o (.inl rfl) (L rfl) (lenl rfl li26) rfl ?_ | refine o (.inl rfl) (L rfl) (leno rfl rfl li26) rfl ?_ | refine o (.inl rfl) (L rfl) (lennl rfl li26) rfl ?_
  refine o (.inl rfl) (L rfl) (mv rfl) rfl ?_
  refine onil ?_
  refine xthn ?_
  refine cblock ?_
  refine cloop (ι := Nat) (fun | i => [(0, .c (.l KRLSzSz) l), (5, .c (.l KRLSzSz) l), (6, .c (.i .i64) (l.length : Int)), (7, .c (.i .i64) (i : Int))]) (fun | i => []) (fun | i => i ≤ l.length ∧ (List.range i).all (stOK l) = true) (fun | i => l.length - i) 0 (by simp) (weak [] (by decide) (h0 hH) (by repeat (first | exact .n | refine .c rfl (by first | rfl) ?_)) (by repeat (first | exact .n | refine .c rfl (by first | rfl | (simp; done)) ?_))) ?_
  rintro i i0
  try simp only [] at i0
  refine cseq ?_
  refine creg ?_
  refine o (.inl rfl) (L rfl) (ibin rfl rfl rfl) rfl ?_
  refine onil ?_
  refine xthn ?_
  refine cseq ?_
  refine ccond rfl (fun c1 => ?_) (fun c1 => ?_)
  · try simp only [q1, q2, q3, q4, q5, q6, q7, q8, q9, q10, q11, q12, q13, q14, q15, q16, q17] at c1
    refine cskip ?_
    refine xthn ?_
    refine cseq ?_
    refine cblock ?_
    refine cseq ?_
    refine creg ?_
    refine o (.inl rfl) (L rfl) (mv rfl) rfl ?_
    first | refine o (.inl rfl) (L rfl) (ixl rfl rfl li26 rfl (by first | omega | (simp; omega)) (by first | omega | (simp; omega))) rfl ?_ | refine o (.inl rfl) (L rfl) (ixo rfl rfl rfl li26 rfl (by first | omega | (simp; omega)) (by first | omega | (simp; omega))) rfl ?_
    first | refine o (.inl rfl) (L rfl) (ldbn rfl rfl ti94 (Le rfl)) rfl ?_ | refine o (.inl rfl) (L rfl) (ldrn rfl ti94 (Le rfl)) rfl ?_ | refine o (.inl rfl) (L rfl) (lden rfl rfl (by first | omega | (simp; omega)) ti94) rfl ?_
    refine oalloc (.inl rfl) (L rfl) zi94 ?_
    refine o (.inl rfl) (L rfl) (asn rfl) rfl ?_
    first | refine ostn (.inl rfl) rfl rfl rfl rfl (Le rfl) ti94 ?_ | refine ste (.inl rfl) rfl rfl (by first | omega | (simp; omega)) rfl (.g rfl) ti94 ?_
    refine onil ?_
    refine xthn ?_
    refine cseq ?_
    refine cseq ?_
    refine creg ?_
    first | refine o (.inl rfl) (L rfl) (fab rfl fi94_0) rfl ?_ | refine o (.inl rfl) (L rfl) (fae rfl fi94_0) rfl ?_ | refine o (.inl rfl) (L rfl) (far rfl fi94_0 (Le rfl)) rfl ?_
    first | refine o (.inl rfl) (L rfl) (ldb rfl rfl rfl ti40) rfl ?_ | refine o (.inl rfl) (L rfl) (ldr rfl ti40) rfl ?_ | refine o (.inl rfl) (L rfl) (lde rfl rfl (by first | omega | (simp; omega)) (L rfl) rfl ti40) rfl ?_
    refine ocall c_spec_l15Path _ [] [] (by repeat (first | exact .n | refine .c rfl (.c (.e rfl)) ?_ | refine .c rfl (.c (.o (by decide) rfl)) ?_ | refine .c rfl (.c .n) ?_  | refine .c rfl (.g (by repeat (first | exact .n | refine .c (.e rfl) ?_ | refine .c (.o (by decide) rfl) ?_ | refine .c .n ?_))) ?_)) (by first | trivial | (refine ?_; omega) | (simp only []; omega) | (constructor <;> omega) | assumption) (.inl rfl) (by decide) (by decide) (by repeat (first | exact .n | refine .c rfl rfl ?_)) (Le rfl) (.inl rfl) (L rfl) ?_
    refine o (.inl rfl) (L rfl) (unot rfl) rfl ?_
    refine o (.inl rfl) (L rfl) (mv rfl) rfl ?_
    refine ocase (t := 16) rfl (fun c2 => ?_) (fun c2 => ?_)
    · try simp only [q1, q2, q3, q4, q5, q6, q7, q8, q9, q10, q11, q12, q13, q14, q15, q16, q17] at c2
      refine oskip rfl rfl rfl rfl rfl (L rfl) ?_
      refine oskip rfl rfl rfl rfl rfl (L rfl) ?_
      refine oskip rfl rfl rfl rfl rfl (L rfl) ?_
      refine oskip rfl rfl rfl rfl rfl (L rfl) ?_
      refine o (.inl rfl) (L rfl) (pickT rfl rfl) rfl ?_
      refine onil ?_
      refine xthn ?_
      refine ccT rfl ?_
      refine cseq ?_
      refine creg ?_
      refine o (.inl rfl) (L rfl) (asn rfl) rfl ?_
      refine onil ?_
      refine xthn ?_
      refine cret ?_
      refine xthr ?_
      refine xbr ?_
      refine xthr ?_
      refine xlr ?_
      refine xbr ?_
      refine xthr ?_
      refine retd rfl (.t rfl (.n)) (h0 hH) rfl ?_
      refine re ?_
      exact good_no (i := i) (by omega) (by simp [stOK, c2])
    · try simp only [q1, q2, q3, q4, q5, q6, q7, q8, q9, q10, q11, q12, q13, q14, q15, q16, q17] at c2
      first | refine o (.inr ⟨_, _, _, rfl, rfl, rfl⟩) (L rfl) (fab rfl fi94_1) rfl ?_ | refine o (.inr ⟨_, _, _, rfl, rfl, rfl⟩) (L rfl) (fae rfl fi94_1) rfl ?_ | refine o (.inr ⟨_, _, _, rfl, rfl, rfl⟩) (L rfl) (far rfl fi94_1 (Le rfl)) rfl ?_
      first | refine o (.inr ⟨_, _, _, rfl, rfl, rfl⟩) (L rfl) (ldb rfl rfl rfl ti9) rfl ?_ | refine o (.inr ⟨_, _, _, rfl, rfl, rfl⟩) (L rfl) (ldr rfl ti9) rfl ?_ | refine o (.inr ⟨_, _, _, rfl, rfl, rfl⟩) (L rfl) (lde rfl rfl (by first | omega | (simp; omega)) (L rfl) rfl ti9) rfl ?_
      refine ocall c_spec_l15Word _ [] [] (by repeat (first | exact .n | refine .c rfl (.c (.e rfl)) ?_ | refine .c rfl (.c (.o (by decide) rfl)) ?_ | refine .c rfl (.c .n) ?_  | refine .c rfl (.g (by repeat (first | exact .n | refine .c (.e rfl) ?_ | refine .c (.o (by decide) rfl) ?_ | refine .c .n ?_))) ?_)) (by first | trivial | (refine ?_; omega) | (simp only []; omega) | (constructor <;> omega) | assumption) (.inr ⟨_, _, _, rfl, rfl, rfl⟩) (by decide) (by decide) (by repeat (first | exact .n | refine .c rfl rfl ?_)) (Le rfl) (.inl rfl) (L rfl) ?_
      refine o (.inr ⟨_, _, _, rfl, rfl, rfl⟩) (L rfl) (unot rfl) rfl ?_
      refine o (.inl rfl) (L rfl) (pickF rfl rfl) rfl ?_
      refine onil ?_
      refine xthn ?_
      refine ccond rfl (fun c3 => ?_) (fun c3 => ?_)
      · try simp only [q1, q2, q3, q4, q5, q6, q7, q8, q9, q10, q11, q12, q13, q14, q15, q16, q17] at c3
        refine cseq ?_
        refine creg ?_
        refine o (.inl rfl) (L rfl) (asn rfl) rfl ?_
        refine onil ?_
        refine xthn ?_
        refine cret ?_
        refine xthr ?_
        refine xbr ?_
        refine xthr ?_
        refine xlr ?_
        refine xbr ?_
        refine xthr ?_
        refine retd rfl (.t rfl (.n)) (h0 hH) rfl ?_
        refine re ?_
        exact good_no (i := i) (by omega) (by simp [stOK, c3])
      · try simp only [q1, q2, q3, q4, q5, q6, q7, q8, q9, q10, q11, q12, q13, q14, q15, q16, q17] at c3
        refine cskip ?_
        refine xthn ?_
        refine cseq ?_
        refine cregd mixed (by kernel_rfl) ?_
        refine qo (.inl rfl) (L rfl) (mv rfl) rfl ?_
        refine qo (.inl rfl) (L rfl) (ibin rfl rfl rfl) rfl ?_
        refine qo (.inl rfl) (L rfl) (mv rfl) rfl ?_
        refine qcase (t := 24) rfl (fun c4 => ?_) (fun c4 => ?_)
        · try simp only [q1, q2, q3, q4, q5, q6, q7, q8, q9, q10, q11, q12, q13, q14, q15, q16, q17] at c4
          refine qo (.inr ⟨_, _, _, rfl, rfl, rfl⟩) (L rfl) (mv rfl) rfl ?_
          refine qo (.inr ⟨_, _, _, rfl, rfl, rfl⟩) (L rfl) (mv rfl) rfl ?_
          refine qo (.inr ⟨_, _, _, rfl, rfl, rfl⟩) (L rfl) (isub rfl rfl (by first | omega | (simp; omega)) (by first | omega | (simp; omega))) rfl ?_
          first | refine qo (.inr ⟨_, _, _, rfl, rfl, rfl⟩) (L rfl) (ixl rfl rfl li26 rfl (by first | omega | (simp; omega)) (by first | omega | (simp; omega))) rfl ?_ | refine qo (.inr ⟨_, _, _, rfl, rfl, rfl⟩) (L rfl) (ixo rfl rfl rfl li26 rfl (by first | omega | (simp; omega)) (by first | omega | (simp; omega))) rfl ?_
          first | refine qo (.inr ⟨_, _, _, rfl, rfl, rfl⟩) (L rfl) (fab rfl fi94_0) rfl ?_ | refine qo (.inr ⟨_, _, _, rfl, rfl, rfl⟩) (L rfl) (fae rfl fi94_0) rfl ?_ | refine qo (.inr ⟨_, _, _, rfl, rfl, rfl⟩) (L rfl) (far rfl fi94_0 (Le rfl)) rfl ?_
          first | refine qo (.inr ⟨_, _, _, rfl, rfl, rfl⟩) (L rfl) (ldb rfl rfl rfl ti40) rfl ?_ | refine qo (.inr ⟨_, _, _, rfl, rfl, rfl⟩) (L rfl) (ldr rfl ti40) rfl ?_ | refine qo (.inr ⟨_, _, _, rfl, rfl, rfl⟩) (L rfl) (lde rfl rfl (by first | omega | (simp; omega)) (L rfl) rfl ti40) rfl ?_
          first | refine qo (.inr ⟨_, _, _, rfl, rfl, rfl⟩) (L rfl) (fab rfl fi94_0) rfl ?_ | refine qo (.inr ⟨_, _, _, rfl, rfl, rfl⟩) (L rfl) (fae rfl fi94_0) rfl ?_ | refine qo (.inr ⟨_, _, _, rfl, rfl, rfl⟩) (L rfl) (far rfl fi94_0 (Le rfl)) rfl ?_
          first | refine qo (.inr ⟨_, _, _, rfl, rfl, rfl⟩) (L rfl) (ldb rfl rfl rfl ti40) rfl ?_ | refine qo (.inr ⟨_, _, _, rfl, rfl, rfl⟩) (L rfl) (ldr rfl ti40) rfl ?_ | refine qo (.inr ⟨_, _, _, rfl, rfl, rfl⟩) (L rfl) (lde rfl rfl (by first | omega | (simp; omega)) (L rfl) rfl ti40) rfl ?_
          refine qcall c_spec_l15Less (_, _) [] (by repeat (first | exact .n | refine .c rfl (.c (.e rfl)) ?_ | refine .c rfl (.c (.o (by decide) rfl)) ?_ | refine .c rfl (.c .n) ?_  | refine .c rfl (.g (by repeat (first | exact .n | refine .c (.e rfl) ?_ | refine .c (.o (by decide) rfl) ?_ | refine .c .n ?_))) ?_)) (by first | trivial | (refine ?_; omega) | (simp only []; omega) | (constructor <;> omega) | assumption) rfl rfl (.inr ⟨_, _, _, rfl, rfl, rfl⟩) rfl (L rfl) ?_
          refine qo (.inr ⟨_, _, _, rfl, rfl, rfl⟩) (L rfl) (unot rfl) rfl ?_
          refine qo (.inr ⟨_, _, _, rfl, rfl, rfl⟩) (L rfl) (mv rfl) rfl ?_
          refine qcase (t := 35) rfl (fun c5 => ?_) (fun c5 => ?_)
          · try simp only [q1, q2, q3, q4, q5, q6, q7, q8, q9, q10, q11, q12, q13, q14, q15, q16, q17] at c5
            refine qskip rfl rfl rfl rfl rfl (L rfl) ?_
            refine qskip rfl rfl rfl rfl rfl (L rfl) ?_
            refine qskip rfl rfl rfl rfl rfl (L rfl) ?_
            refine qskip rfl rfl rfl rfl rfl (L rfl) ?_
            refine qskip rfl rfl rfl rfl rfl (L rfl) ?_
            refine qskip rfl rfl rfl rfl rfl (L rfl) ?_
            refine qskip rfl rfl rfl rfl rfl (L rfl) ?_
            refine qskip rfl rfl rfl rfl rfl (L rfl) ?_
            refine qskip rfl rfl rfl rfl rfl (L rfl) ?_
            refine qo (.inr ⟨_, _, _, rfl, rfl, rfl⟩) (L rfl) (pickT rfl rfl) rfl ?_
            refine qo (.inl rfl) (L rfl) (pickT rfl rfl) rfl ?_
            refine qnil ?_
            refine xthn ?_
            refine ccT rfl ?_
            refine cseq ?_
            refine creg ?_
            refine o (.inl rfl) (L rfl) (asn rfl) rfl ?_
            refine onil ?_
            refine xthn ?_
            refine cret ?_
            refine xbr ?_
            refine xthr ?_
            refine xlr ?_
            refine xbr ?_
            refine xthr ?_
            refine retd rfl (.t rfl (.n)) (h0 hH) rfl ?_
            refine re ?_
            exact good_no (i := i) (by omega) (by simp [stOK, c5]; omega)
          · try simp only [q1, q2, q3, q4, q5, q6, q7, q8, q9, q10, q11, q12, q13, q14, q15, q16, q17] at c5
            refine qo (.inr ⟨_, _, _, rfl, rfl, rfl⟩) (L rfl) (mv rfl) rfl ?_
            refine qo (.inr ⟨_, _, _, rfl, rfl, rfl⟩) (L rfl) (mv rfl) rfl ?_
            refine qo (.inr ⟨_, _, _, rfl, rfl, rfl⟩) (L rfl) (isub rfl rfl (by first | omega | (simp; omega)) (by first | omega | (simp; omega))) rfl ?_
            first | refine qo (.inr ⟨_, _, _, rfl, rfl, rfl⟩) (L rfl) (ixl rfl rfl li26 rfl (by first | omega | (simp; omega)) (by first | omega | (simp; omega))) rfl ?_ | refine qo (.inr ⟨_, _, _, rfl, rfl, rfl⟩) (L rfl) (ixo rfl rfl rfl li26 rfl (by first | omega | (simp; omega)) (by first | omega | (simp; omega))) rfl ?_
            first | refine qo (.inr ⟨_, _, _, rfl, rfl, rfl⟩) (L rfl) (fab rfl fi94_0) rfl ?_ | refine qo (.inr ⟨_, _, _, rfl, rfl, rfl⟩) (L rfl) (fae rfl fi94_0) rfl ?_ | refine qo (.inr ⟨_, _, _, rfl, rfl, rfl⟩) (L rfl) (far rfl fi94_0 (Le rfl)) rfl ?_
            first | refine qo (.inr ⟨_, _, _, rfl, rfl, rfl⟩) (L rfl) (ldb rfl rfl rfl ti40) rfl ?_ | refine qo (.inr ⟨_, _, _, rfl, rfl, rfl⟩) (L rfl) (ldr rfl ti40) rfl ?_ | refine qo (.inr ⟨_, _, _, rfl, rfl, rfl⟩) (L rfl) (lde rfl rfl (by first | omega | (simp; omega)) (L rfl) rfl ti40) rfl ?_
            first | refine qo (.inr ⟨_, _, _, rfl, rfl, rfl⟩) (L rfl) (fab rfl fi94_0) rfl ?_ | refine qo (.inr ⟨_, _, _, rfl, rfl, rfl⟩) (L rfl) (fae rfl fi94_0) rfl ?_ | refine qo (.inr ⟨_, _, _, rfl, rfl, rfl⟩) (L rfl) (far rfl fi94_0 (Le rfl)) rfl ?_
            first | refine qo (.inr ⟨_, _, _, rfl, rfl, rfl⟩) (L rfl) (ldb rfl rfl rfl ti40) rfl ?_ | refine qo (.inr ⟨_, _, _, rfl, rfl, rfl⟩) (L rfl) (ldr rfl ti40) rfl ?_ | refine qo (.inr ⟨_, _, _, rfl, rfl, rfl⟩) (L rfl) (lde rfl rfl (by first | omega | (simp; omega)) (L rfl) rfl ti40) rfl ?_
            refine qcall c_spec_l15Begins (_, _) [] (by repeat (first | exact .n | refine .c rfl (.c (.e rfl)) ?_ | refine .c rfl (.c (.o (by decide) rfl)) ?_ | refine .c rfl (.c .n) ?_  | refine .c rfl (.g (by repeat (first | exact .n | refine .c (.e rfl) ?_ | refine .c (.o (by decide) rfl) ?_ | refine .c .n ?_))) ?_)) (by first | trivial | (refine ?_; omega) | (simp only []; omega) | (constructor <;> omega) | assumption) rfl rfl (.inr ⟨_, _, _, rfl, rfl, rfl⟩) rfl (L rfl) ?_
            refine qo (.inr ⟨_, _, _, rfl, rfl, rfl⟩) (L rfl) (pickF rfl rfl) rfl ?_
            refine qo (.inl rfl) (L rfl) (pickT rfl rfl) rfl ?_
            refine qnil ?_
            refine xthn ?_
            refine ccond rfl (fun c6 => ?_) (fun c6 => ?_)
            · try simp only [q1, q2, q3, q4, q5, q6, q7, q8, q9, q10, q11, q12, q13, q14, q15, q16, q17] at c6
              refine cseq ?_
              refine creg ?_
              refine o (.inl rfl) (L rfl) (asn rfl) rfl ?_
              refine onil ?_
              refine xthn ?_
              refine cret ?_
              refine xbr ?_
              refine xthr ?_
              refine xlr ?_
              refine xbr ?_
              refine xthr ?_
              refine retd rfl (.t rfl (.n)) (h0 hH) rfl ?_
              refine re ?_
              exact good_no (i := i) (by omega) (by simp [stOK, c6]; omega)
            · try simp only [q1, q2, q3, q4, q5, q6, q7, q8, q9, q10, q11, q12, q13, q14, q15, q16, q17] at c6
              refine cskip ?_
              refine xbn ?_
              refine xthn ?_
              refine creg ?_
              refine o (.inl rfl) (L rfl) (iadd rfl rfl (by first | omega | (simp; omega)) (by first | omega | (simp; omega))) rfl ?_
              refine o (.inl rfl) (L rfl) (mv rfl) rfl ?_
              refine onil ?_
              refine xlq (i + 1) (by refine ⟨by omega, range_step i0.2 ?_⟩; simp [stOK, c2, c3, c5, c6]) (by simp only []; omega) (weak [] (by decide) (h0 hH) (by repeat (first | exact .n | refine .c rfl (by first | rfl) ?_)) (by repeat (first | exact .n | refine .c rfl (by first | rfl | (simp; done)) ?_)))
        · try simp only [q1, q2, q3, q4, q5, q6, q7, q8, q9, q10, q11, q12, q13, q14, q15, q16, q17] at c4
          refine qskip rfl rfl rfl rfl rfl (L rfl) ?_
          refine qskip rfl rfl rfl rfl rfl (L rfl) ?_
          refine qskip rfl rfl rfl rfl rfl (L rfl) ?_
          refine qskip rfl rfl rfl rfl rfl (L rfl) ?_
          refine qskip rfl rfl rfl rfl rfl (L rfl) ?_
          refine qskip rfl rfl rfl rfl rfl (L rfl) ?_
          refine qskip rfl rfl rfl rfl rfl (L rfl) ?_
          refine qskip rfl rfl rfl rfl rfl (L rfl) ?_
          refine qskip rfl rfl rfl rfl rfl (L rfl) ?_
          refine qskip rfl rfl rfl rfl rfl (L rfl) ?_
          refine qskip rfl rfl rfl rfl rfl (L rfl) ?_
          refine qskipu rfl rfl rfl rfl (L rfl) ?_
          refine qskipu rfl rfl rfl rfl (L rfl) ?_
          refine qskipu rfl rfl rfl rfl (L rfl) ?_
          refine qskipu rfl rfl rfl rfl (L rfl) ?_
          refine qskipu rfl rfl rfl rfl (L rfl) ?_
          refine qskipu rfl rfl rfl rfl (L rfl) ?_
          refine qskipu rfl rfl rfl rfl (L rfl) ?_
          refine qskipu rfl rfl rfl rfl (L rfl) ?_
          refine qskipu rfl rfl rfl rfl (L rfl) ?_
          refine qskip rfl rfl rfl rfl rfl (L rfl) ?_
          refine qo (.inl rfl) (L rfl) (pickF rfl rfl) rfl ?_
          refine qnil ?_
          refine xthn ?_
          refine ccF rfl ?_
          refine cskip ?_
          refine xbn ?_
          refine xthn ?_
          refine creg ?_
          refine o (.inl rfl) (L rfl) (iadd rfl rfl (by first | omega | (simp; omega)) (by first | omega | (simp; omega))) rfl ?_
          refine o (.inl rfl) (L rfl) (mv rfl) rfl ?_
          refine onil ?_
          refine xlq (i + 1) (by refine ⟨by omega, range_step i0.2 ?_⟩; simp [stOK, c2, c3]; omega) (by simp only []; omega) (weak [] (by decide) (h0 hH) (by repeat (first | exact .n | refine .c rfl (by first | rfl) ?_)) (by repeat (first | exact .n | refine .c rfl (by first | rfl | (simp; done)) ?_)))
  · try simp only [q1, q2, q3, q4, q5, q6, q7, q8, q9, q10, q11, q12, q13, q14, q15, q16, q17] at c1
    refine cexit ?_
    refine xthe ?_
    refine xle ?_
    refine xbh ?_
    refine xthn ?_
    refine cseq ?_
    refine creg ?_
    refine o (.inl rfl) (L rfl) (mv rfl) rfl ?_
    first | refine ofact (t := 48) rfl fun hl2 => ?_ | refine ofacts (t := 48) rfl fun hl2 => ?_ | skip
    first | refine o (.inl rfl) (L rfl) (lenl rfl li26) rfl ?_ | refine o (.inl rfl) (L rfl) (leno rfl rfl li26) rfl ?_ | refine o (.inl rfl) (L rfl) (lennl rfl li26) rfl ?_
    refine o (.inl rfl) (L rfl) (ibin rfl rfl rfl) rfl ?_
    refine o (.inl rfl) (L rfl) (asn rfl) rfl ?_
    refine onil ?_
    refine xthn ?_
    refine cret ?_
    refine retd rfl (.t rfl (.n)) (h0 hH) rfl ?_
    refine re ?_
    have e : i = l.length := by omega
    subst e; rw [good, i0.2, Bool.true_and]; exact decide_eq_decide.2 (by omega)

theorem c_spec_l15Blanks : Fe Go.Proofs.Try.prog 114 (ι := Int) (fun n => [.c (.i .i64) n]) (fun _ => []) (fun n => n ≤ 1048576) (fun n => (.c .s (blanks n.toNat), [])) := by
  refine fnE (n := 11) Go.Proofs.Try.func114 rfl rfl (ent Go.Proofs.Try.func114 (by kernel_rfl) rfl) ?_
  rintro n hx
  refine ⟨Le rfl, fun w0 S0 H Z hH => ?_⟩
  try simp only [] at hx
  have hbl : ∀ k, (blanks k).length = 2 * k := fun k => by simp [blanks]
  refine cseq ?_
  refine creg ?_
  refine o (.inl rfl) (L rfl) (asn rfl) rfl ?_
  refine onil ?_
  refine xthn ?_
  refine cseq ?_
  refine creg ?_
  refine o (.inl rfl) (L rfl) (asn rfl) rfl ?_
  refine onil ?_
  refine xthn ?_
  refine cseq ?_
  refine cblock ?_
  refine cloop (ι := Nat × Int) (fun | (k, m) => [(0, .c (.i .i64) m), (3, .c .s (blanks k))]) (fun | (k, m) => []) (fun | (k, m) => (m : Int) ≤ n ∧ (k : Int) ≤ 1048576 ∧ (0 ≤ m ∨ k = 0) ∧ k + m.toNat = n.toNat) (fun | (k, m) => m.toNat) (0, n) (by simp) (weak [] (by decide) (h0 hH) (by repeat (first | exact .n | refine .c rfl (by first | rfl) ?_)) (by repeat (first | exact .n | refine .c rfl (by first | rfl | exact tq (blanks_step _) | (simp; done)) ?_))) ?_
  rintro ⟨k, m⟩ i0
  try simp only [] at i0
  refine cseq ?_
  refine cseq ?_
  refine creg ?_
  refine o (.inl rfl) (L rfl) (mv rfl) rfl ?_
  refine o (.inl rfl) (L rfl) (ibin rfl rfl rfl) rfl ?_
  refine onil ?_
  refine xthn ?_
  refine ccond rfl (fun c1 => ?_) (fun c1 => ?_)
  · try simp only [q1, q2, q3, q4, q5, q6, q7, q8, q9, q10, q11, q12, q13, q14, q15, q16, q17] at c1
    refine cskip ?_
    refine xthn ?_
    refine cseq ?_
    refine cblock ?_
    refine creg ?_
    refine o (.inl rfl) (L rfl) (mv rfl) rfl ?_
    refine o (.inl rfl) (L rfl) (sadd rfl rfl (by first | omega | (simp [hbl]; omega))) rfl ?_
    refine o (.inl rfl) (L rfl) (asn rfl) rfl ?_
    refine onil ?_
    refine xbn ?_
    refine xthn ?_
    refine creg ?_
    refine o (.inl rfl) (L rfl) (mv rfl) rfl ?_
    refine o (.inl rfl) (L rfl) (isub rfl rfl (by first | omega | (simp [hbl]; omega)) (by first | omega | (simp [hbl]; omega))) rfl ?_
    refine o (.inl rfl) (L rfl) (asn rfl) rfl ?_
    refine onil ?_
    refine xlq (k + 1, m - 1) (by simp only []; omega) (by simp only []; omega) (weak [] (by decide) (h0 hH) (by repeat (first | exact .n | refine .c rfl (by first | rfl) ?_)) (by repeat (first | exact .n | refine .c rfl (by first | rfl | exact tq (blanks_step _) | (simp; done)) ?_)))
  · try simp only [q1, q2, q3, q4, q5, q6, q7, q8, q9, q10, q11, q12, q13, q14, q15, q16, q17] at c1
    refine cexit ?_
    refine xthe ?_
    refine xle ?_
    refine xbh ?_
    refine xthn ?_
    refine cseq ?_
    refine creg ?_
    refine o (.inl rfl) (L rfl) (mv rfl) rfl ?_
    refine o (.inl rfl) (L rfl) (asn rfl) rfl ?_
    refine onil ?_
    refine xthn ?_
    refine cret ?_
    refine retd rfl (.t rfl (.n)) (h0 hH) rfl ?_
    refine re ?_
    have e : k = n.toNat := by omega
    rw [e]

end Go.Proofs.YtifpekpmnlcmoaaE
