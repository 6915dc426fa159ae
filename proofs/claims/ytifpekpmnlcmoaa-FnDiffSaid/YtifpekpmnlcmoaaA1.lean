import Derived.Test.YtifpekpmnlcmoaaProg
import Derived.Test.YtifpekpmnlcmoaaE19
set_option linter.unusedVariables false
set_option linter.unusedSimpArgs false
set_option maxRecDepth 100000
namespace Go.Proofs.YtifpekpmnlcmoaaE
open Go Go.RowKit Go.Shelf Go.Proofs
abbrev KS : Tys := .cons .s .nil
abbrev KRLSzSz : Tys := .cons (.l KS) (.cons .s .nil)
theorem mixed : (Go.Proofs.Try.prog).follows .mixedOrders = true := by kernel_rfl
theorem li40 : linfo Go.Proofs.Try.prog 40 = some (9, 1) := by kernel_rfl
theorem ti9 : TI Go.Proofs.Try.prog 9 false 1 := ti (by kernel_rfl)
theorem us9 : (Go.Proofs.Try.prog).underlying 9 = some .string := by kernel_rfl
theorem fi92_0 : finfo Go.Proofs.Try.prog 92 0 = some 0 := by kernel_rfl
theorem ti40 : TI Go.Proofs.Try.prog 40 false 1 := ti (by kernel_rfl)
theorem fi92_1 : finfo Go.Proofs.Try.prog 92 1 = some 1 := by kernel_rfl
theorem li22 : linfo Go.Proofs.Try.prog 22 = some (92, 2) := by kernel_rfl
theorem ti92 : TI Go.Proofs.Try.prog 92 true 2 := ti (by kernel_rfl)

abbrev StrS : Type := List KS.den
abbrev Leafs : Type := List KRLSzSz.den
theorem drop_ix {α : Type} {z : α} {xs : List α} {i : Nat} (h : i < xs.length) : xs.drop i = ix z xs i :: xs.drop (i + 1) := by
  rw [List.drop_eq_getElem_cons h]; simp [ix, List.getD_eq_getElem?_getD, h]
theorem ix_mem {α : Type} {z : α} {xs : List α} {i : Nat} (h : i < xs.length) : ix z xs i ∈ xs := by
  simp [ix, List.getD_eq_getElem?_getD, h]
def szGo : StrS → Int → Int
  | [], l => l
  | x :: r, l => if l - x.1.length < 0 then -1 else szGo r (l - x.1.length)
def szStr (a : StrS) (left : Int) : Int := if left - a.length < 0 then -1 else szGo a (left - a.length)

theorem c_laws_szStringS : Fe Go.Proofs.Try.prog 107 (ι := StrS × Int) (fun | (a, left) => [.c (.l KS) a, .c (.i .i64) left]) (fun _ => []) (fun | (a, left) => 0 ≤ left ∧ left ≤ 1048576) (fun | (a, left) => (.c (.i .i64) (szStr a left), [])) := by
  refine fnE (n := 28) Go.Proofs.Try.func107 rfl rfl (ent Go.Proofs.Try.func107 (by kernel_rfl) rfl) ?_
  rintro ⟨a, left⟩ hx
  refine ⟨Le rfl, fun w0 S0 H Z hH => ?_⟩
  try simp only [] at hx
  refine cseq ?_
  refine creg ?_
  refine o (.inl rfl) (L rfl) (asn rfl) rfl ?_
  refine onil ?_
  refine xthn ?_
  refine cseq ?_
  refine creg ?_
  refine o (.inl rfl) (L rfl) (mv rfl) rfl ?_
  refine o (.inl rfl) (L rfl) (mv rfl) rfl ?_
  first | refine ofact (t := 7) rfl fun hl1 => ?_ | refine ofacts (t := 7) rfl fun hl1 => ?_ | skip
  first | refine o (.inl rfl) (L rfl) (lenl rfl li40) rfl ?_ | refine o (.inl rfl) (L rfl) (leno rfl rfl li40) rfl ?_ | refine o (.inl rfl) (L rfl) (lennl rfl li40) rfl ?_
  refine o (.inl rfl) (L rfl) (isub rfl rfl (by first | omega | (simp; omega)) (by first | omega | (simp; omega))) rfl ?_
  refine o (.inl rfl) (L rfl) (asn rfl) rfl ?_
  refine onil ?_
  refine xthn ?_
  refine cseq ?_
  refine cseq ?_
  refine creg ?_
  refine o (.inl rfl) (L rfl) (mv rfl) rfl ?_
  refine o (.inl rfl) (L rfl) (ibin rfl rfl rfl) rfl ?_
  refine onil ?_
  refine xthn ?_
  refine ccond rfl (fun c1 => ?_) (fun c1 => ?_)
  · try simp only [q1, q2, q3, q4, q5, q6, q7, q8, q9, q10, q11, q12, q13, q14, q15, q16, q17] at c1
    refine cseq ?_
    refine creg ?_
    refine o (.inl rfl) (L rfl) (asn rfl) rfl ?_
    refine onil ?_
    refine xthn ?_
    refine cret ?_
    refine xthr ?_
    refine retd rfl (.t rfl (.n)) (h0 hH) rfl ?_
    refine re ?_
    simp [szStr, c1]
  · try simp only [q1, q2, q3, q4, q5, q6, q7, q8, q9, q10, q11, q12, q13, q14, q15, q16, q17] at c1
    refine cskip ?_
    refine xthn ?_
    refine cseq ?_
    refine cseq ?_
    refine creg ?_
    refine o (.inl rfl) (L rfl) (asn rfl) rfl ?_
    refine onil ?_
    refine xthn ?_
    refine cblock ?_
    refine cloop (ι := Nat × Int) (fun | (i, l) => [(0, .c (.l KS) a), (1, .c (.i .i64) l), (5, .c (.i .i64) (i : Int))]) (fun | (i, l) => []) (fun | (i, l) => i ≤ a.length ∧ 0 ≤ l ∧ l ≤ left ∧ szStr a left = szGo (a.drop i) l) (fun | (i, l) => a.length - i) (0, left - a.length) (by refine ⟨by simp, c1, by omega, ?_⟩; rw [szStr, if_neg (by omega)]; rfl) (weak [] (by decide) (h0 hH) (by repeat (first | exact .n | refine .c rfl (by first | rfl) ?_)) (by repeat (first | exact .n | refine .c rfl (by first | rfl | (simp; done)) ?_))) ?_
    rintro ⟨i, l⟩ i0
    try simp only [] at i0
    refine cseq ?_
    refine cseq ?_
    refine creg ?_
    refine o (.inl rfl) (L rfl) (mv rfl) rfl ?_
    refine o (.inl rfl) (L rfl) (mv rfl) rfl ?_
    first | refine ofact (t := 13) rfl fun hl2 => ?_ | refine ofacts (t := 13) rfl fun hl2 => ?_ | skip
    first | refine o (.inl rfl) (L rfl) (lenl rfl li40) rfl ?_ | refine o (.inl rfl) (L rfl) (leno rfl rfl li40) rfl ?_ | refine o (.inl rfl) (L rfl) (lennl rfl li40) rfl ?_
    refine o (.inl rfl) (L rfl) (ibin rfl rfl rfl) rfl ?_
    refine onil ?_
    refine xthn ?_
    refine ccond rfl (fun c2 => ?_) (fun c2 => ?_)
    · try simp only [q1, q2, q3, q4, q5, q6, q7, q8, q9, q10, q11, q12, q13, q14, q15, q16, q17] at c2
      refine cskip ?_
      refine xthn ?_
      refine cseq ?_
      refine cblock ?_
      refine cseq ?_
      refine creg ?_
      refine o (.inl rfl) (L rfl) (mv rfl) rfl ?_
      refine o (.inl rfl) (L rfl) (mv rfl) rfl ?_
      refine o (.inl rfl) (L rfl) (mv rfl) rfl ?_
      first | refine o (.inl rfl) (L rfl) (ixl rfl rfl li40 rfl (by first | omega | (simp; omega)) (by first | omega | (simp; omega))) rfl ?_ | refine o (.inl rfl) (L rfl) (ixo rfl rfl rfl li40 rfl (by first | omega | (simp; omega)) (by first | omega | (simp; omega))) rfl ?_
      first | refine o (.inl rfl) (L rfl) (ldb rfl rfl rfl ti9) rfl ?_ | refine o (.inl rfl) (L rfl) (ldr rfl ti9) rfl ?_ | refine o (.inl rfl) (L rfl) (lde rfl rfl (by first | omega | (simp; omega)) (L rfl) rfl ti9) rfl ?_
      first | refine ofact (t := 22) rfl fun hl3 => ?_ | refine ofacts (t := 22) rfl fun hl3 => ?_ | skip
      refine o (.inl rfl) (L rfl) (lens rfl us9) rfl ?_
      refine o (.inl rfl) (L rfl) (isub rfl rfl (by first | omega | (simp; omega)) (by first | omega | (simp; omega))) rfl ?_
      refine o (.inl rfl) (L rfl) (asn rfl) rfl ?_
      refine onil ?_
      refine xthn ?_
      refine cseq ?_
      refine creg ?_
      refine o (.inl rfl) (L rfl) (mv rfl) rfl ?_
      refine o (.inl rfl) (L rfl) (ibin rfl rfl rfl) rfl ?_
      refine onil ?_
      refine xthn ?_
      refine ccond rfl (fun c3 => ?_) (fun c3 => ?_)
      · try simp only [q1, q2, q3, q4, q5, q6, q7, q8, q9, q10, q11, q12, q13, q14, q15, q16, q17] at c3
        refine cseq ?_
        refine creg ?_
        refine o (.inl rfl) (L rfl) (asn rfl) rfl ?_
        refine onil ?_
        refine xthn ?_
        refine cret ?_
        refine xbr ?_
        refine xthr ?_
        refine xlr ?_
        refine xbr ?_
        refine xthr ?_
        refine retd rfl (.t rfl (.n)) (h0 hH) rfl ?_
        refine re ?_
        rw [i0.2.2.2, drop_ix (z := KS.z) (by omega), szGo, if_pos c3]
      · try simp only [q1, q2, q3, q4, q5, q6, q7, q8, q9, q10, q11, q12, q13, q14, q15, q16, q17] at c3
        refine cskip ?_
        refine xbn ?_
        refine xthn ?_
        refine creg ?_
        refine o (.inl rfl) (L rfl) (mv rfl) rfl ?_
        refine o (.inl rfl) (L rfl) (iadd rfl rfl (by first | omega | (simp; omega)) (by first | omega | (simp; omega))) rfl ?_
        refine o (.inl rfl) (L rfl) (asn rfl) rfl ?_
        refine onil ?_
        refine xlq (i + 1, l - (ix KS.z a i).1.length) (by refine ⟨by omega, c3, by omega, ?_⟩; rw [i0.2.2.2, drop_ix (z := KS.z) (by omega), szGo, if_neg (by omega)]) (by simp only []; omega) (weak [] (by decide) (h0 hH) (by repeat (first | exact .n | refine .c rfl (by first | rfl) ?_)) (by repeat (first | exact .n | refine .c rfl (by first | rfl | (simp; done)) ?_)))
    · try simp only [q1, q2, q3, q4, q5, q6, q7, q8, q9, q10, q11, q12, q13, q14, q15, q16, q17] at c2
      refine cexit ?_
      refine xthe ?_
      refine xle ?_
      refine xbh ?_
      refine xthn ?_
      refine cseq ?_
      refine creg ?_
      refine o (.inl rfl) (L rfl) (mv rfl) rfl ?_
      refine o (.inl rfl) (L rfl) (asn rfl) rfl ?_
      refine onil ?_
      refine xthn ?_
      refine cret ?_
      refine retd rfl (.t rfl (.n)) (h0 hH) rfl ?_
      refine re ?_
      rw [i0.2.2.2, List.drop_eq_nil_of_le (by omega), szGo]


theorem szGo_le : ∀ (a : StrS) (l : Int), szGo a l ≤ max l (-1)
  | [], l => by simp only [szGo]; omega
  | x :: r, l => by
    simp only [szGo]
    split
    · omega
    · have := szGo_le r (l - x.1.length); omega
theorem szStr_le (a : StrS) (l : Int) (h : 0 ≤ l) : szStr a l ≤ l := by
  simp only [szStr]
  split
  · omega
  · have := szGo_le a (l - a.length); omega
def szL (a : KRLSzSz.den) (left : Int) : Int := if szStr a.1 left < 0 then -1 else if szStr a.1 left - a.2.1.length < 0 then -1 else szStr a.1 left - a.2.1.length
theorem szL_le (a : KRLSzSz.den) (l : Int) (h : 0 ≤ l) : szL a l ≤ l := by
  have := szStr_le a.1 l h
  simp only [szL]
  (repeat' split) <;> omega
def szLs : Leafs → Int → Int
  | [], l => l
  | x :: r, l => if szL x l < 0 then -1 else szLs r (szL x l)
def szLeafs (a : Leafs) (left : Int) : Int := if left - a.length < 0 then -1 else szLs a (left - a.length)

theorem c_laws_szLeaf : Fe Go.Proofs.Try.prog 56 (ι := KRLSzSz.den × Int) (fun | (a, left) => [.agg (avs 2 KRLSzSz a), .c (.i .i64) left]) (fun _ => []) (fun | (a, left) => 0 ≤ left ∧ left ≤ 1048576) (fun | (a, left) => (.c (.i .i64) (szL a left), [])) := by
  refine fnE (n := 19) Go.Proofs.Try.func56 rfl rfl (ent Go.Proofs.Try.func56 (by kernel_rfl) rfl) ?_
  rintro ⟨a, left⟩ hx
  refine ⟨Le rfl, fun w0 S0 H Z hH => ?_⟩
  try simp only [] at hx
  have q1 := szStr_le a.1 left hx.1
  refine cseq ?_
  refine creg ?_
  refine oboxn (.inl rfl) (L rfl) rfl rfl ?_
  refine o (.inl rfl) (L rfl) (asn rfl) rfl ?_
  refine onil ?_
  refine xthn ?_
  refine cseq ?_
  refine creg ?_
  first | refine o (.inl rfl) (L rfl) (fab rfl fi92_0) rfl ?_ | refine o (.inl rfl) (L rfl) (fae rfl fi92_0) rfl ?_ | refine o (.inl rfl) (L rfl) (far rfl fi92_0 (Le rfl)) rfl ?_
  first | refine o (.inl rfl) (L rfl) (ldb rfl rfl rfl ti40) rfl ?_ | refine o (.inl rfl) (L rfl) (ldr rfl ti40) rfl ?_ | refine o (.inl rfl) (L rfl) (lde rfl rfl (by first | omega | (simp; omega)) (L rfl) rfl ti40) rfl ?_
  refine o (.inl rfl) (L rfl) (mv rfl) rfl ?_
  refine ocall c_laws_szStringS (_, _) [] [] (by repeat (first | exact .n | refine .c rfl (.c (.e rfl)) ?_ | refine .c rfl (.c (.o (by decide) rfl)) ?_ | refine .c rfl (.c .n) ?_  | refine .c rfl (.g (by repeat (first | exact .n | refine .c (.e rfl) ?_ | refine .c (.o (by decide) rfl) ?_ | refine .c .n ?_))) ?_)) (by exact hx) (.inl rfl) (by decide) (by decide) (by repeat (first | exact .n | refine .c rfl rfl ?_)) (Le rfl) (.inl rfl) (L rfl) ?_
  refine o (.inl rfl) (L rfl) (asn rfl) rfl ?_
  refine onil ?_
  refine xthn ?_
  refine cseq ?_
  refine cseq ?_
  refine creg ?_
  refine o (.inl rfl) (L rfl) (mv rfl) rfl ?_
  refine o (.inl rfl) (L rfl) (ibin rfl rfl rfl) rfl ?_
  refine onil ?_
  refine xthn ?_
  refine ccond rfl (fun c1 => ?_) (fun c1 => ?_)
  · repeat (first | simp only [decide_eq_true_eq] at c1 | simp only [decide_eq_false_iff_not] at c1 | simp only [beq_iff_eq] at c1 | simp only [bne_iff_ne] at c1 | simp only [Bool.not_eq_true'] at c1 | simp only [Bool.not_eq_false'] at c1 | simp only [beq_eq_false_iff_ne] at c1 | simp only [bne_eq_false_iff_eq] at c1 | simp only [Bool.not_not] at c1 | simp only [ne_eq] at c1 | simp only [Int.not_lt] at c1 | simp only [Int.not_le] at c1 | simp only [gt_iff_lt] at c1 | simp only [ge_iff_le] at c1 | simp only [Bool.not_eq_true] at c1 | simp only [Bool.not_eq_false] at c1 | simp only [Decidable.not_not] at c1)
    refine cseq ?_
    refine creg ?_
    refine o (.inl rfl) (L rfl) (asn rfl) rfl ?_
    refine onil ?_
    refine xthn ?_
    refine cret ?_
    refine xthr ?_
    refine retd rfl (.t rfl (.n)) (h0 hH) rfl ?_
    refine re ?_
    simp [szL, c1]
  · repeat (first | simp only [decide_eq_true_eq] at c1 | simp only [decide_eq_false_iff_not] at c1 | simp only [beq_iff_eq] at c1 | simp only [bne_iff_ne] at c1 | simp only [Bool.not_eq_true'] at c1 | simp only [Bool.not_eq_false'] at c1 | simp only [beq_eq_false_iff_ne] at c1 | simp only [bne_eq_false_iff_eq] at c1 | simp only [Bool.not_not] at c1 | simp only [ne_eq] at c1 | simp only [Int.not_lt] at c1 | simp only [Int.not_le] at c1 | simp only [gt_iff_lt] at c1 | simp only [ge_iff_le] at c1 | simp only [Bool.not_eq_true] at c1 | simp only [Bool.not_eq_false] at c1 | simp only [Decidable.not_not] at c1)
    refine cskip ?_
    refine xthn ?_
    refine cseq ?_
    refine creg ?_
    refine o (.inl rfl) (L rfl) (mv rfl) rfl ?_
    first | refine o (.inl rfl) (L rfl) (fab rfl fi92_1) rfl ?_ | refine o (.inl rfl) (L rfl) (fae rfl fi92_1) rfl ?_ | refine o (.inl rfl) (L rfl) (far rfl fi92_1 (Le rfl)) rfl ?_
    first | refine o (.inl rfl) (L rfl) (ldb rfl rfl rfl ti9) rfl ?_ | refine o (.inl rfl) (L rfl) (ldr rfl ti9) rfl ?_ | refine o (.inl rfl) (L rfl) (lde rfl rfl (by first | omega | (simp; omega)) (L rfl) rfl ti9) rfl ?_
    first | refine ofact (t := 13) rfl fun hl1 => ?_ | refine ofacts (t := 13) rfl fun hl1 => ?_ | skip
    refine o (.inl rfl) (L rfl) (lens rfl us9) rfl ?_
    refine o (.inl rfl) (L rfl) (isub rfl rfl (by first | omega | (simp; omega)) (by first | omega | (simp; omega))) rfl ?_
    refine o (.inl rfl) (L rfl) (asn rfl) rfl ?_
    refine onil ?_
    refine xthn ?_
    refine cseq ?_
    refine cseq ?_
    refine creg ?_
    refine o (.inl rfl) (L rfl) (mv rfl) rfl ?_
    refine o (.inl rfl) (L rfl) (ibin rfl rfl rfl) rfl ?_
    refine onil ?_
    refine xthn ?_
    refine ccond rfl (fun c2 => ?_) (fun c2 => ?_)
    · repeat (first | simp only [decide_eq_true_eq] at c2 | simp only [decide_eq_false_iff_not] at c2 | simp only [beq_iff_eq] at c2 | simp only [bne_iff_ne] at c2 | simp only [Bool.not_eq_true'] at c2 | simp only [Bool.not_eq_false'] at c2 | simp only [beq_eq_false_iff_ne] at c2 | simp only [bne_eq_false_iff_eq] at c2 | simp only [Bool.not_not] at c2 | simp only [ne_eq] at c2 | simp only [Int.not_lt] at c2 | simp only [Int.not_le] at c2 | simp only [gt_iff_lt] at c2 | simp only [ge_iff_le] at c2 | simp only [Bool.not_eq_true] at c2 | simp only [Bool.not_eq_false] at c2 | simp only [Decidable.not_not] at c2)
      refine cseq ?_
      refine creg ?_
      refine o (.inl rfl) (L rfl) (asn rfl) rfl ?_
      refine onil ?_
      refine xthn ?_
      refine cret ?_
      refine xthr ?_
      refine retd rfl (.t rfl (.n)) (h0 hH) rfl ?_
      refine re ?_
      rw [szL, if_neg (by omega), if_pos c2]
    · repeat (first | simp only [decide_eq_true_eq] at c2 | simp only [decide_eq_false_iff_not] at c2 | simp only [beq_iff_eq] at c2 | simp only [bne_iff_ne] at c2 | simp only [Bool.not_eq_true'] at c2 | simp only [Bool.not_eq_false'] at c2 | simp only [beq_eq_false_iff_ne] at c2 | simp only [bne_eq_false_iff_eq] at c2 | simp only [Bool.not_not] at c2 | simp only [ne_eq] at c2 | simp only [Int.not_lt] at c2 | simp only [Int.not_le] at c2 | simp only [gt_iff_lt] at c2 | simp only [ge_iff_le] at c2 | simp only [Bool.not_eq_true] at c2 | simp only [Bool.not_eq_false] at c2 | simp only [Decidable.not_not] at c2)
      refine cskip ?_
      refine xthn ?_
      refine cseq ?_
      refine creg ?_
      refine o (.inl rfl) (L rfl) (mv rfl) rfl ?_
      refine o (.inl rfl) (L rfl) (asn rfl) rfl ?_
      refine onil ?_
      refine xthn ?_
      refine cret ?_
      refine retd rfl (.t rfl (.n)) (h0 hH) rfl ?_
      refine re ?_
      rw [szL, if_neg (by omega), if_neg (by omega)]

theorem c_laws_szLeafS : Fe Go.Proofs.Try.prog 9 (ι := Leafs × Int) (fun | (a, left) => [.c (.l KRLSzSz) a, .c (.i .i64) left]) (fun _ => []) (fun | (a, left) => 0 ≤ left ∧ left ≤ 1048576) (fun | (a, left) => (.c (.i .i64) (szLeafs a left), [])) := by
  refine fnE (n := 27) Go.Proofs.Try.func9 rfl rfl (ent Go.Proofs.Try.func9 (by kernel_rfl) rfl) ?_
  rintro ⟨a, left⟩ hx
  refine ⟨Le rfl, fun w0 S0 H Z hH => ?_⟩
  try simp only [] at hx
  refine cseq ?_
  refine creg ?_
  refine o (.inl rfl) (L rfl) (asn rfl) rfl ?_
  refine onil ?_
  refine xthn ?_
  refine cseq ?_
  refine creg ?_
  refine o (.inl rfl) (L rfl) (mv rfl) rfl ?_
  refine o (.inl rfl) (L rfl) (mv rfl) rfl ?_
  first | refine ofact (t := 7) rfl fun hl1 => ?_ | refine ofacts (t := 7) rfl fun hl1 => ?_ | skip
  first | refine o (.inl rfl) (L rfl) (lenl rfl li22) rfl ?_ | refine o (.inl rfl) (L rfl) (leno rfl rfl li22) rfl ?_ | refine o (.inl rfl) (L rfl) (lennl rfl li22) rfl ?_
  refine o (.inl rfl) (L rfl) (isub rfl rfl (by first | omega | (simp; omega)) (by first | omega | (simp; omega))) rfl ?_
  refine o (.inl rfl) (L rfl) (asn rfl) rfl ?_
  refine onil ?_
  refine xthn ?_
  refine cseq ?_
  refine cseq ?_
  refine creg ?_
  refine o (.inl rfl) (L rfl) (mv rfl) rfl ?_
  refine o (.inl rfl) (L rfl) (ibin rfl rfl rfl) rfl ?_
  refine onil ?_
  refine xthn ?_
  refine ccond rfl (fun c1 => ?_) (fun c1 => ?_)
  · repeat (first | simp only [decide_eq_true_eq] at c1 | simp only [decide_eq_false_iff_not] at c1 | simp only [beq_iff_eq] at c1 | simp only [bne_iff_ne] at c1 | simp only [Bool.not_eq_true'] at c1 | simp only [Bool.not_eq_false'] at c1 | simp only [beq_eq_false_iff_ne] at c1 | simp only [bne_eq_false_iff_eq] at c1 | simp only [Bool.not_not] at c1 | simp only [ne_eq] at c1 | simp only [Int.not_lt] at c1 | simp only [Int.not_le] at c1 | simp only [gt_iff_lt] at c1 | simp only [ge_iff_le] at c1 | simp only [Bool.not_eq_true] at c1 | simp only [Bool.not_eq_false] at c1 | simp only [Decidable.not_not] at c1)
    refine cseq ?_
    refine creg ?_
    refine o (.inl rfl) (L rfl) (asn rfl) rfl ?_
    refine onil ?_
    refine xthn ?_
    refine cret ?_
    refine xthr ?_
    refine retd rfl (.t rfl (.n)) (h0 hH) rfl ?_
    refine re ?_
    simp [szLeafs, c1]
  · repeat (first | simp only [decide_eq_true_eq] at c1 | simp only [decide_eq_false_iff_not] at c1 | simp only [beq_iff_eq] at c1 | simp only [bne_iff_ne] at c1 | simp only [Bool.not_eq_true'] at c1 | simp only [Bool.not_eq_false'] at c1 | simp only [beq_eq_false_iff_ne] at c1 | simp only [bne_eq_false_iff_eq] at c1 | simp only [Bool.not_not] at c1 | simp only [ne_eq] at c1 | simp only [Int.not_lt] at c1 | simp only [Int.not_le] at c1 | simp only [gt_iff_lt] at c1 | simp only [ge_iff_le] at c1 | simp only [Bool.not_eq_true] at c1 | simp only [Bool.not_eq_false] at c1 | simp only [Decidable.not_not] at c1)
    refine cskip ?_
    refine xthn ?_
    refine cseq ?_
    refine cseq ?_
    refine creg ?_
    refine o (.inl rfl) (L rfl) (asn rfl) rfl ?_
    refine onil ?_
    refine xthn ?_
    refine cblock ?_
    refine cloop (ι := Nat × Int) (fun | (i, l) => [(0, .c (.l KRLSzSz) a), (1, .c (.i .i64) l), (5, .c (.i .i64) (i : Int))]) (fun | (i, l) => []) (fun | (i, l) => i ≤ a.length ∧ 0 ≤ l ∧ l ≤ left ∧ szLeafs a left = szLs (a.drop i) l) (fun | (i, l) => a.length - i) (0, left - a.length) (by refine ⟨by simp, c1, by omega, ?_⟩; rw [szLeafs, if_neg (by omega)]; rfl) (weak [] (by decide) (h0 hH) (by repeat (first | exact .n | refine .c rfl (by first | rfl) ?_)) (by repeat (first | exact .n | refine .c rfl (by first | rfl | (simp; done)) ?_))) ?_
    rintro ⟨i, l⟩ i0
    try simp only [] at i0
    have q1 := szL_le (ix KRLSzSz.z a i) l i0.2.1
    refine cseq ?_
    refine cseq ?_
    refine creg ?_
    refine o (.inl rfl) (L rfl) (mv rfl) rfl ?_
    refine o (.inl rfl) (L rfl) (mv rfl) rfl ?_
    first | refine ofact (t := 13) rfl fun hl2 => ?_ | refine ofacts (t := 13) rfl fun hl2 => ?_ | skip
    first | refine o (.inl rfl) (L rfl) (lenl rfl li22) rfl ?_ | refine o (.inl rfl) (L rfl) (leno rfl rfl li22) rfl ?_ | refine o (.inl rfl) (L rfl) (lennl rfl li22) rfl ?_
    refine o (.inl rfl) (L rfl) (ibin rfl rfl rfl) rfl ?_
    refine onil ?_
    refine xthn ?_
    refine ccond rfl (fun c2 => ?_) (fun c2 => ?_)
    · repeat (first | simp only [decide_eq_true_eq] at c2 | simp only [decide_eq_false_iff_not] at c2 | simp only [beq_iff_eq] at c2 | simp only [bne_iff_ne] at c2 | simp only [Bool.not_eq_true'] at c2 | simp only [Bool.not_eq_false'] at c2 | simp only [beq_eq_false_iff_ne] at c2 | simp only [bne_eq_false_iff_eq] at c2 | simp only [Bool.not_not] at c2 | simp only [ne_eq] at c2 | simp only [Int.not_lt] at c2 | simp only [Int.not_le] at c2 | simp only [gt_iff_lt] at c2 | simp only [ge_iff_le] at c2 | simp only [Bool.not_eq_true] at c2 | simp only [Bool.not_eq_false] at c2 | simp only [Decidable.not_not] at c2)
      refine cskip ?_
      refine xthn ?_
      refine cseq ?_
      refine cblock ?_
      refine cseq ?_
      refine creg ?_
      refine o (.inl rfl) (L rfl) (mv rfl) rfl ?_
      refine o (.inl rfl) (L rfl) (mv rfl) rfl ?_
      first | refine o (.inl rfl) (L rfl) (ixl rfl rfl li22 rfl (by first | omega | (simp; omega)) (by first | omega | (simp; omega))) rfl ?_ | refine o (.inl rfl) (L rfl) (ixo rfl rfl rfl li22 rfl (by first | omega | (simp; omega)) (by first | omega | (simp; omega))) rfl ?_
      first | refine o (.inl rfl) (L rfl) (ldbn rfl rfl ti92 (Le rfl)) rfl ?_ | refine o (.inl rfl) (L rfl) (ldrn rfl ti92 (Le rfl)) rfl ?_ | refine o (.inl rfl) (L rfl) (lden rfl rfl (by first | omega | (simp; omega)) ti92) rfl ?_
      refine o (.inl rfl) (L rfl) (mv rfl) rfl ?_
      refine ocall c_laws_szLeaf (_, _) [] [] (by repeat (first | exact .n | refine .c rfl (.c (.e rfl)) ?_ | refine .c rfl (.c (.o (by decide) rfl)) ?_ | refine .c rfl (.c .n) ?_  | refine .c rfl (.g (by repeat (first | exact .n | refine .c (.e rfl) ?_ | refine .c (.o (by decide) rfl) ?_ | refine .c .n ?_))) ?_)) (by simp only []; omega) (.inl rfl) (by decide) (by decide) (by repeat (first | exact .n | refine .c rfl rfl ?_)) (Le rfl) (.inl rfl) (L rfl) ?_
      refine o (.inl rfl) (L rfl) (asn rfl) rfl ?_
      refine onil ?_
      refine xthn ?_
      refine cseq ?_
      refine creg ?_
      refine o (.inl rfl) (L rfl) (mv rfl) rfl ?_
      refine o (.inl rfl) (L rfl) (ibin rfl rfl rfl) rfl ?_
      refine onil ?_
      refine xthn ?_
      refine ccond rfl (fun c3 => ?_) (fun c3 => ?_)
      · repeat (first | simp only [decide_eq_true_eq] at c3 | simp only [decide_eq_false_iff_not] at c3 | simp only [beq_iff_eq] at c3 | simp only [bne_iff_ne] at c3 | simp only [Bool.not_eq_true'] at c3 | simp only [Bool.not_eq_false'] at c3 | simp only [beq_eq_false_iff_ne] at c3 | simp only [bne_eq_false_iff_eq] at c3 | simp only [Bool.not_not] at c3 | simp only [ne_eq] at c3 | simp only [Int.not_lt] at c3 | simp only [Int.not_le] at c3 | simp only [gt_iff_lt] at c3 | simp only [ge_iff_le] at c3 | simp only [Bool.not_eq_true] at c3 | simp only [Bool.not_eq_false] at c3 | simp only [Decidable.not_not] at c3)
        refine cseq ?_
        refine creg ?_
        refine o (.inl rfl) (L rfl) (asn rfl) rfl ?_
        refine onil ?_
        refine xthn ?_
        refine cret ?_
        refine xbr ?_
        refine xthr ?_
        refine xlr ?_
        refine xbr ?_
        refine xthr ?_
        refine retd rfl (.t rfl (.n)) (h0 hH) rfl ?_
        refine re ?_
        rw [i0.2.2.2, drop_ix (z := KRLSzSz.z) (by omega), szLs, if_pos c3]
      · repeat (first | simp only [decide_eq_true_eq] at c3 | simp only [decide_eq_false_iff_not] at c3 | simp only [beq_iff_eq] at c3 | simp only [bne_iff_ne] at c3 | simp only [Bool.not_eq_true'] at c3 | simp only [Bool.not_eq_false'] at c3 | simp only [beq_eq_false_iff_ne] at c3 | simp only [bne_eq_false_iff_eq] at c3 | simp only [Bool.not_not] at c3 | simp only [ne_eq] at c3 | simp only [Int.not_lt] at c3 | simp only [Int.not_le] at c3 | simp only [gt_iff_lt] at c3 | simp only [ge_iff_le] at c3 | simp only [Bool.not_eq_true] at c3 | simp only [Bool.not_eq_false] at c3 | simp only [Decidable.not_not] at c3)
        refine cskip ?_
        refine xbn ?_
        refine xthn ?_
        refine creg ?_
        refine o (.inl rfl) (L rfl) (mv rfl) rfl ?_
        refine o (.inl rfl) (L rfl) (iadd rfl rfl (by first | omega | (simp; omega)) (by first | omega | (simp; omega))) rfl ?_
        refine o (.inl rfl) (L rfl) (asn rfl) rfl ?_
        refine onil ?_
        refine xlq (i + 1, szL (ix KRLSzSz.z a i) l) (by refine ⟨by omega, c3, by omega, ?_⟩; rw [i0.2.2.2, drop_ix (z := KRLSzSz.z) (by omega), szLs, if_neg (by omega)]) (by simp only []; omega) (weak [] (by decide) (h0 hH) (by repeat (first | exact .n | refine .c rfl (by first | rfl) ?_)) (by repeat (first | exact .n | refine .c rfl (by first | rfl | (simp; done)) ?_)))
    · repeat (first | simp only [decide_eq_true_eq] at c2 | simp only [decide_eq_false_iff_not] at c2 | simp only [beq_iff_eq] at c2 | simp only [bne_iff_ne] at c2 | simp only [Bool.not_eq_true'] at c2 | simp only [Bool.not_eq_false'] at c2 | simp only [beq_eq_false_iff_ne] at c2 | simp only [bne_eq_false_iff_eq] at c2 | simp only [Bool.not_not] at c2 | simp only [ne_eq] at c2 | simp only [Int.not_lt] at c2 | simp only [Int.not_le] at c2 | simp only [gt_iff_lt] at c2 | simp only [ge_iff_le] at c2 | simp only [Bool.not_eq_true] at c2 | simp only [Bool.not_eq_false] at c2 | simp only [Decidable.not_not] at c2)
      refine cexit ?_
      refine xthe ?_
      refine xle ?_
      refine xbh ?_
      refine xthn ?_
      refine cseq ?_
      refine creg ?_
      refine o (.inl rfl) (L rfl) (mv rfl) rfl ?_
      refine o (.inl rfl) (L rfl) (asn rfl) rfl ?_
      refine onil ?_
      refine xthn ?_
      refine cret ?_
      refine retd rfl (.t rfl (.n)) (h0 hH) rfl ?_
      refine re ?_
      rw [i0.2.2.2, List.drop_eq_nil_of_le (by omega), szLs]

end Go.Proofs.YtifpekpmnlcmoaaE
