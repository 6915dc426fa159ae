import Derived.Test.YtifpekpmnlcmoaaProg
import Derived.Test.YtifpekpmnlcmoaaE19
import Derived.Test.YtifpekpmnlcmoaaB4
import Derived.Test.YtifpekpmnlcmoaaA3
set_option linter.unusedVariables false
set_option maxRecDepth 100000
namespace Go.Proofs.YtifpekpmnlcmoaaE
open Go Go.RowKit Go.Shelf Go.Proofs
theorem ub4 : (Go.Proofs.Try.prog).underlying 4 = some .bool := by kernel_rfl

theorem szGo_len : ∀ (a : StrS) (l : Int), 0 ≤ szGo a l → 0 ≤ l
  | [], l, h => h
  | x :: r, l, h => by
    simp only [szGo] at h
    split at h
    · omega
    · have := szGo_len r _ h; omega
theorem szStr_len {a : StrS} {l : Int} (h : 0 ≤ szStr a l) : (a.length : Int) ≤ l := by
  simp only [szStr] at h
  split at h
  · omega
  · omega
theorem szL_len {x : KRLSzSz.den} {l : Int} (h : 0 ≤ szL x l) : (x.1.length : Int) ≤ l := by
  simp only [szL] at h
  (repeat' split at h) <;> first | omega | (exact szStr_len (by omega))
theorem szLs_len : ∀ (a : Leafs) (l : Int), 0 ≤ szLs a l → 0 ≤ l → ∀ x ∈ a, (x.1.length : Int) ≤ l
  | [], l, _, _ => by simp
  | y :: r, l, h, h0 => by
    simp only [szLs] at h
    split at h
    · omega
    · intro x hx
      rename_i h1
      rcases List.mem_cons.1 hx with rfl | hx
      · exact szL_len (by omega)
      · have := szLs_len r _ h (by omega) x hx
        have := szL_le y l h0
        omega
theorem szLeafs_len {a : Leafs} {l : Int} (h : 0 ≤ szLeafs a l) (h0 : 0 ≤ l) : (a.length : Int) ≤ l ∧ ∀ x ∈ a, (x.1.length : Int) ≤ l := by
  simp only [szLeafs] at h
  split at h
  · omega
  · refine ⟨by omega, fun x hx => ?_⟩
    have := szLs_len a _ h (by omega) x hx
    omega

theorem c_laws_FnExactConfigText : Fe Go.Proofs.Try.prog 3 (ι := Leafs) (fun l => [.c (.l KRLSzSz) l]) (fun _ => []) (fun l => True) (fun l => (.c .b true, [])) := by
  refine fnE (n := 40) Go.Proofs.Try.func3 rfl rfl (ent Go.Proofs.Try.func3 (by kernel_rfl) rfl) ?_
  rintro l hx
  refine ⟨Le rfl, fun w0 S0 H Z hH => ?_⟩
  try simp only [] at hx
  refine cseq ?_
  refine creg ?_
  refine o (.inl rfl) (L rfl) (asn rfl) rfl ?_
  refine onil ?_
  refine xthn ?_
  refine cseq ?_
  refine creg ?_
  refine o (.inl rfl) (L rfl) (asn rfl) rfl ?_
  refine onil ?_
  refine xthn ?_
  refine cseq ?_
  refine creg ?_
  refine o (.inl rfl) (L rfl) (mv rfl) rfl ?_
  refine o (.inl rfl) (L rfl) (mv rfl) rfl ?_
  refine ocall c_laws_szLeafS (_, _) [] [] (by repeat (first | exact .n | refine .c rfl (.c (.e rfl)) ?_ | refine .c rfl (.c (.o (by decide) rfl)) ?_ | refine .c rfl (.c .n) ?_  | refine .c rfl (.g (by repeat (first | exact .n | refine .c (.e rfl) ?_ | refine .c (.o (by decide) rfl) ?_ | refine .c .n ?_))) ?_)) (by simp only []; omega) (.inl rfl) (by decide) (by decide) (by repeat (first | exact .n | refine .c rfl rfl ?_)) (Le rfl) (.inl rfl) (L rfl) ?_
  refine o (.inl rfl) (L rfl) (asn rfl) rfl ?_
  refine onil ?_
  refine xthn ?_
  refine cseq ?_
  refine cseq ?_
  refine creg ?_
  refine o (.inl rfl) (L rfl) (mv rfl) rfl ?_
  refine o (.inl rfl) (L rfl) (ibin rfl rfl rfl) rfl ?_
  refine onil ?_
  refine xthn ?_
  refine ccond rfl (fun c1 => ?_) (fun c1 => ?_)
  · repeat (first | simp only [decide_eq_true_eq] at c1 | simp only [decide_eq_false_iff_not] at c1 | simp only [beq_iff_eq] at c1 | simp only [bne_iff_ne] at c1 | simp only [Bool.not_eq_true'] at c1 | simp only [Bool.not_eq_false'] at c1 | simp only [beq_eq_false_iff_ne] at c1 | simp only [bne_eq_false_iff_eq] at c1 | simp only [Bool.not_not] at c1 | simp only [ne_eq] at c1 | simp only [Int.not_lt] at c1 | simp only [Int.not_le] at c1 | simp only [gt_iff_lt] at c1 | simp only [ge_iff_le] at c1 | simp only [Bool.not_eq_true] at c1 | simp only [Bool.not_eq_false] at c1 | simp only [Decidable.not_not] at c1)
    refine cseq ?_
    refine creg ?_
    refine o (.inl rfl) (L rfl) (asn rfl) rfl ?_
    refine onil ?_
    refine xthn ?_
    refine cret ?_
    refine xthr ?_
    refine retd rfl (.t rfl (.n)) (h0 hH) rfl ?_
    refine re ?_
    first | rfl | (simp_all; done)
  · repeat (first | simp only [decide_eq_true_eq] at c1 | simp only [decide_eq_false_iff_not] at c1 | simp only [beq_iff_eq] at c1 | simp only [bne_iff_ne] at c1 | simp only [Bool.not_eq_true'] at c1 | simp only [Bool.not_eq_false'] at c1 | simp only [beq_eq_false_iff_ne] at c1 | simp only [bne_eq_false_iff_eq] at c1 | simp only [Bool.not_not] at c1 | simp only [ne_eq] at c1 | simp only [Int.not_lt] at c1 | simp only [Int.not_le] at c1 | simp only [gt_iff_lt] at c1 | simp only [ge_iff_le] at c1 | simp only [Bool.not_eq_true] at c1 | simp only [Bool.not_eq_false] at c1 | simp only [Decidable.not_not] at c1)
    have sz := szLeafs_len (a := l) (l := 1048576) (by omega) (by omega)
    have tl : l.length ≤ 1048576 ∧ ∀ x ∈ l, x.1.length ≤ 1048576 := ⟨by omega, fun x hx => by have := sz.2 x hx; omega⟩
    refine cskip ?_
    refine xthn ?_
    refine cseq ?_
    refine creg ?_
    refine o (.inl rfl) (L rfl) (mv rfl) rfl ?_
    refine ocall c_laws_toLeafS _ [] [] (by repeat (first | exact .n | refine .c rfl (.c (.e rfl)) ?_ | refine .c rfl (.c (.o (by decide) rfl)) ?_ | refine .c rfl (.c .n) ?_  | refine .c rfl (.g (by repeat (first | exact .n | refine .c (.e rfl) ?_ | refine .c (.o (by decide) rfl) ?_ | refine .c .n ?_))) ?_)) (by exact tl) (.inl rfl) (by decide) (by decide) (by repeat (first | exact .n | refine .c rfl rfl ?_)) (Le rfl) (.inl rfl) (L rfl) ?_
    refine ocall c_spec_ConfigText _ [] [] (by repeat (first | exact .n | refine .c rfl (.c (.e rfl)) ?_ | refine .c rfl (.c (.o (by decide) rfl)) ?_ | refine .c rfl (.c .n) ?_  | refine .c rfl (.g (by repeat (first | exact .n | refine .c (.e rfl) ?_ | refine .c (.o (by decide) rfl) ?_ | refine .c .n ?_))) ?_)) (by first | trivial | (refine ?_; omega) | (simp only []; omega) | (constructor <;> omega) | assumption) (.inl rfl) (by decide) (by decide) (by repeat (first | exact .n | refine .c rfl rfl ?_)) (Le rfl) (.inl rfl) (L rfl) ?_
    refine o (.inl rfl) (L rfl) (mv rfl) rfl ?_
    refine o (.inl rfl) (L rfl) (xtr rfl rfl) rfl ?_
    refine o (.inl rfl) (L rfl) (xtr rfl rfl) rfl ?_
    refine o (.inl rfl) (L rfl) (asn rfl) rfl ?_
    refine o (.inl rfl) (L rfl) (asn rfl) rfl ?_
    refine onil ?_
    refine xthn ?_
    refine cseq ?_
    refine creg ?_
    refine o (.inl rfl) (L rfl) (mv rfl) rfl ?_
    refine ocall c_laws_toLeafS _ [] [] (by repeat (first | exact .n | refine .c rfl (.c (.e rfl)) ?_ | refine .c rfl (.c (.o (by decide) rfl)) ?_ | refine .c rfl (.c .n) ?_  | refine .c rfl (.g (by repeat (first | exact .n | refine .c (.e rfl) ?_ | refine .c (.o (by decide) rfl) ?_ | refine .c .n ?_))) ?_)) (by exact tl) (.inl rfl) (by decide) (by decide) (by repeat (first | exact .n | refine .c rfl rfl ?_)) (Le rfl) (.inl rfl) (L rfl) ?_
    refine o (.inl rfl) (L rfl) (asn rfl) rfl ?_
    refine onil ?_
    refine xthn ?_
    refine cseq ?_
    refine creg ?_
    refine o (.inl rfl) (L rfl) (mv rfl) rfl ?_
    refine ocall c_impl_ConfigText _ [] [] (by repeat (first | exact .n | refine .c rfl (.c (.e rfl)) ?_ | refine .c rfl (.c (.o (by decide) rfl)) ?_ | refine .c rfl (.c .n) ?_  | refine .c rfl (.g (by repeat (first | exact .n | refine .c (.e rfl) ?_ | refine .c (.o (by decide) rfl) ?_ | refine .c .n ?_))) ?_)) (by first | trivial | (refine ?_; omega) | (simp only []; omega) | (constructor <;> omega) | assumption) (.inl rfl) (by decide) (by decide) (by repeat (first | exact .n | refine .c rfl rfl ?_)) (Le rfl) (.inl rfl) (L rfl) ?_
    refine o (.inl rfl) (L rfl) (mv rfl) rfl ?_
    refine o (.inl rfl) (L rfl) (xtr rfl rfl) rfl ?_
    refine o (.inl rfl) (L rfl) (xtr rfl rfl) rfl ?_
    refine o (.inl rfl) (L rfl) (asn rfl) rfl ?_
    refine o (.inl rfl) (L rfl) (asn rfl) rfl ?_
    refine onil ?_
    refine xthn ?_
    refine cseq ?_
    refine cseq ?_
    refine creg ?_
    refine o (.inl rfl) (L rfl) (mv rfl) rfl ?_
    refine o (.inl rfl) (L rfl) (mv rfl) rfl ?_
    refine o (.inl rfl) (L rfl) (sbin rfl rfl rfl) rfl ?_
    refine o (.inl rfl) (L rfl) (mv rfl) rfl ?_
    refine ocase (t := 30) rfl (fun c2 => ?_) (fun c2 => ?_)
    · repeat (first | simp only [decide_eq_true_eq] at c2 | simp only [decide_eq_false_iff_not] at c2 | simp only [beq_iff_eq] at c2 | simp only [bne_iff_ne] at c2 | simp only [Bool.not_eq_true'] at c2 | simp only [Bool.not_eq_false'] at c2 | simp only [beq_eq_false_iff_ne] at c2 | simp only [bne_eq_false_iff_eq] at c2 | simp only [Bool.not_not] at c2 | simp only [ne_eq] at c2 | simp only [Int.not_lt] at c2 | simp only [Int.not_le] at c2 | simp only [gt_iff_lt] at c2 | simp only [ge_iff_le] at c2 | simp only [Bool.not_eq_true] at c2 | simp only [Bool.not_eq_false] at c2 | simp only [Decidable.not_not] at c2)
      refine oskip rfl rfl rfl rfl rfl (L rfl) ?_
      refine oskip rfl rfl rfl rfl rfl (L rfl) ?_
      refine oskip rfl rfl rfl rfl rfl (L rfl) ?_
      refine o (.inl rfl) (L rfl) (pickT rfl rfl) rfl ?_
      refine onil ?_
      refine xthn ?_
      refine ccT rfl ?_
      refine cseq ?_
      refine creg ?_
      refine o (.inl rfl) (L rfl) (asn rfl) rfl ?_
      refine onil ?_
      refine xthn ?_
      refine cret ?_
      refine xthr ?_
      refine retd rfl (.t rfl (.n)) (h0 hH) rfl ?_
      refine re ?_
      first | rfl | (simp_all; done)
    · repeat (first | simp only [decide_eq_true_eq] at c2 | simp only [decide_eq_false_iff_not] at c2 | simp only [beq_iff_eq] at c2 | simp only [bne_iff_ne] at c2 | simp only [Bool.not_eq_true'] at c2 | simp only [Bool.not_eq_false'] at c2 | simp only [beq_eq_false_iff_ne] at c2 | simp only [bne_eq_false_iff_eq] at c2 | simp only [Bool.not_not] at c2 | simp only [ne_eq] at c2 | simp only [Int.not_lt] at c2 | simp only [Int.not_le] at c2 | simp only [gt_iff_lt] at c2 | simp only [ge_iff_le] at c2 | simp only [Bool.not_eq_true] at c2 | simp only [Bool.not_eq_false] at c2 | simp only [Decidable.not_not] at c2)
      refine o (.inr ⟨_, _, _, rfl, rfl, rfl⟩) (L rfl) (mv rfl) rfl ?_
      refine o (.inr ⟨_, _, _, rfl, rfl, rfl⟩) (L rfl) (mv rfl) rfl ?_
      refine o (.inr ⟨_, _, _, rfl, rfl, rfl⟩) (L rfl) (bneq rfl rfl ub4) rfl ?_
      refine o (.inl rfl) (L rfl) (pickF rfl rfl) rfl ?_
      refine onil ?_
      refine xthn ?_
      refine ccond rfl (fun c3 => ?_) (fun c3 => ?_)
      · repeat (first | simp only [decide_eq_true_eq] at c3 | simp only [decide_eq_false_iff_not] at c3 | simp only [beq_iff_eq] at c3 | simp only [bne_iff_ne] at c3 | simp only [Bool.not_eq_true'] at c3 | simp only [Bool.not_eq_false'] at c3 | simp only [beq_eq_false_iff_ne] at c3 | simp only [bne_eq_false_iff_eq] at c3 | simp only [Bool.not_not] at c3 | simp only [ne_eq] at c3 | simp only [Int.not_lt] at c3 | simp only [Int.not_le] at c3 | simp only [gt_iff_lt] at c3 | simp only [ge_iff_le] at c3 | simp only [Bool.not_eq_true] at c3 | simp only [Bool.not_eq_false] at c3 | simp only [Decidable.not_not] at c3)
        refine cseq ?_
        refine creg ?_
        refine o (.inl rfl) (L rfl) (asn rfl) rfl ?_
        refine onil ?_
        refine xthn ?_
        refine cret ?_
        refine xthr ?_
        refine retd rfl (.t rfl (.n)) (h0 hH) rfl ?_
        refine re ?_
        first | rfl | (simp_all; done)
      · repeat (first | simp only [decide_eq_true_eq] at c3 | simp only [decide_eq_false_iff_not] at c3 | simp only [beq_iff_eq] at c3 | simp only [bne_iff_ne] at c3 | simp only [Bool.not_eq_true'] at c3 | simp only [Bool.not_eq_false'] at c3 | simp only [beq_eq_false_iff_ne] at c3 | simp only [bne_eq_false_iff_eq] at c3 | simp only [Bool.not_not] at c3 | simp only [ne_eq] at c3 | simp only [Int.not_lt] at c3 | simp only [Int.not_le] at c3 | simp only [gt_iff_lt] at c3 | simp only [ge_iff_le] at c3 | simp only [Bool.not_eq_true] at c3 | simp only [Bool.not_eq_false] at c3 | simp only [Decidable.not_not] at c3)
        refine cskip ?_
        refine xthn ?_
        refine cseq ?_
        refine cseq ?_
        refine creg ?_
        refine o (.inl rfl) (L rfl) (mv rfl) rfl ?_
        refine o (.inl rfl) (L rfl) (mv rfl) rfl ?_
        refine ocall c_laws_toLeafS _ [] [] (by repeat (first | exact .n | refine .c rfl (.c (.e rfl)) ?_ | refine .c rfl (.c (.o (by decide) rfl)) ?_ | refine .c rfl (.c .n) ?_  | refine .c rfl (.g (by repeat (first | exact .n | refine .c (.e rfl) ?_ | refine .c (.o (by decide) rfl) ?_ | refine .c .n ?_))) ?_)) (by exact tl) (.inl rfl) (by decide) (by decide) (by repeat (first | exact .n | refine .c rfl rfl ?_)) (Le rfl) (.inl rfl) (L rfl) ?_
        refine ocall c_laws_eqLeafS (_, _) [] [] (by repeat (first | exact .n | refine .c rfl (.c (.e rfl)) ?_ | refine .c rfl (.c (.o (by decide) rfl)) ?_ | refine .c rfl (.c .n) ?_  | refine .c rfl (.g (by repeat (first | exact .n | refine .c (.e rfl) ?_ | refine .c (.o (by decide) rfl) ?_ | refine .c .n ?_))) ?_)) (by first | trivial | (refine ?_; omega) | (simp only []; omega) | (constructor <;> omega) | assumption) (.inl rfl) (by decide) (by decide) (by repeat (first | exact .n | refine .c rfl rfl ?_)) (Le rfl) (.inl rfl) (L rfl) ?_
        refine o (.inl rfl) (L rfl) (unot rfl) rfl ?_
        refine onil ?_
        refine xthn ?_
        refine ccond rfl (fun c4 => ?_) (fun c4 => ?_)
        · repeat (first | simp only [decide_eq_true_eq] at c4 | simp only [decide_eq_false_iff_not] at c4 | simp only [beq_iff_eq] at c4 | simp only [bne_iff_ne] at c4 | simp only [Bool.not_eq_true'] at c4 | simp only [Bool.not_eq_false'] at c4 | simp only [beq_eq_false_iff_ne] at c4 | simp only [bne_eq_false_iff_eq] at c4 | simp only [Bool.not_not] at c4 | simp only [ne_eq] at c4 | simp only [Int.not_lt] at c4 | simp only [Int.not_le] at c4 | simp only [gt_iff_lt] at c4 | simp only [ge_iff_le] at c4 | simp only [Bool.not_eq_true] at c4 | simp only [Bool.not_eq_false] at c4 | simp only [Decidable.not_not] at c4)
          refine cseq ?_
          refine creg ?_
          refine o (.inl rfl) (L rfl) (asn rfl) rfl ?_
          refine onil ?_
          refine xthn ?_
          refine cret ?_
          refine xthr ?_
          refine retd rfl (.t rfl (.n)) (h0 hH) rfl ?_
          refine re ?_
          first | rfl | (simp_all; done)
        · repeat (first | simp only [decide_eq_true_eq] at c4 | simp only [decide_eq_false_iff_not] at c4 | simp only [beq_iff_eq] at c4 | simp only [bne_iff_ne] at c4 | simp only [Bool.not_eq_true'] at c4 | simp only [Bool.not_eq_false'] at c4 | simp only [beq_eq_false_iff_ne] at c4 | simp only [bne_eq_false_iff_eq] at c4 | simp only [Bool.not_not] at c4 | simp only [ne_eq] at c4 | simp only [Int.not_lt] at c4 | simp only [Int.not_le] at c4 | simp only [gt_iff_lt] at c4 | simp only [ge_iff_le] at c4 | simp only [Bool.not_eq_true] at c4 | simp only [Bool.not_eq_false] at c4 | simp only [Decidable.not_not] at c4)
          refine cskip ?_
          refine xthn ?_
          refine cseq ?_
          refine creg ?_
          refine o (.inl rfl) (L rfl) (asn rfl) rfl ?_
          refine onil ?_
          refine xthn ?_
          refine cret ?_
          refine retd rfl (.t rfl (.n)) (h0 hH) rfl ?_
          refine re ?_
          first | rfl | (simp_all; done)

end Go.Proofs.YtifpekpmnlcmoaaE
