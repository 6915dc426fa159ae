import Derived.Test.YtifpekpmnlcmoaaProg
import Derived.Test.YtifpekpmnlcmoaaE19
import Derived.Test.YtifpekpmnlcmoaaA6
set_option linter.unusedVariables false
set_option maxRecDepth 100000
namespace Go.Proofs.YtifpekpmnlcmoaaE
open Go Go.RowKit Go.Shelf Go.Proofs

def tx (lo : Nat) : StrS → Leafs → List UInt8
  | op, [] => closes op.length lo
  | op, x :: r => closes op.length (com op (x.1.take (x.1.length - 1))) ++ opens x.1 (com op (x.1.take (x.1.length - 1))) (x.1.length - 1 - com op (x.1.take (x.1.length - 1))) ++ leafT x ++ tx lo (x.1.take (x.1.length - 1)) r
theorem tx_txt : ∀ (l : Leafs) (op : StrS), txt op l = tx 0 op l
  | [], op => rfl
  | x :: r, op => by rw [txt, tx, tx_txt r]
theorem com_app : ∀ (a b c : StrS), com (a ++ b) (a ++ c) = a.length + com b c
  | [], b, c => by simp
  | x :: a, b, c => by simp only [List.cons_append, com, if_true, com_app a b c, List.length_cons]; omega
theorem com_self (a c : StrS) : com a (a ++ c) = a.length := by
  have := com_app a [] c
  simpa [com] using this
theorem closes_split {d : Nat} : ∀ (h : Nat), d + 1 ≤ h → closes h d = closes h (d + 1) ++ (blanks d ++ [125, 10])
  | 0, h => by omega
  | h + 1, hh => by
    rw [closes, if_pos (by omega)]
    by_cases e : h = d
    · subst e
      rw [closes_end (j := h) (Nat.le_refl _), closes_end (j := h + 1) (Nat.le_refl _)]; simp
    · have := closes_split (d := d) h (by omega)
      rw [this, closes, if_pos (by omega)]; simp only [List.append_assoc]
/-- A path's beginning, without its last word. -/
theorem front {op t : StrS} {w : KS.den} : (op ++ w :: t).take ((op ++ w :: t).length - 1) = op ++ (w :: t).take t.length := by
  have e : (op ++ w :: t).length - 1 = op.length + t.length := by simp
  rw [e, List.take_append, List.take_of_length_le (by omega)]
  congr 2; omega
theorem front1 {op : StrS} {w : KS.den} : (op ++ [w]).take ((op ++ [w]).length - 1) = op := by
  rw [front]; simp
theorem front2 {op t : StrS} {w u : KS.den} : (op ++ w :: u :: t).take ((op ++ w :: u :: t).length - 1) = op ++ w :: (u :: t).take t.length := by
  rw [front]; rfl
theorem ix_mid {op t : StrS} {w : KS.den} : ix KS.z (op ++ w :: t) (op.length : Int) = w := by
  simp [ix, List.getD_eq_getElem?_getD]
/-- What comes behind a group. -/
def Other (op : StrS) (w : KS.den) : Leafs → Prop
  | [] => True
  | y :: _ => ∃ w2 t, y.1 = op ++ w2 :: t ∧ w2.1 ≠ w.1
theorem com_other {op s t : StrS} {w w2 : KS.den} (h : w2.1 ≠ w.1) : com (op ++ w :: s) ((op ++ w2 :: t).take ((op ++ w2 :: t).length - 1)) = op.length := by
  rw [front, com_app]
  cases t with
  | nil => simp [com]
  | cons u t => simp [com, Ne.symm h]
theorem com_op {op t : StrS} {w : KS.den} : com op ((op ++ w :: t).take ((op ++ w :: t).length - 1)) = op.length := by
  rw [front, com_self]
theorem tx_leaf {lo : Nat} {op : StrS} {w : KS.den} {x : KRLSzSz.den} {r : Leafs} (hx : x.1 = op ++ [w]) : tx lo op (x :: r) = leafT x ++ tx lo op r := by
  rw [tx, hx, com_op, front1, closes_end (Nat.le_refl _)]
  have : (op ++ [w]).length - 1 - op.length = 0 := by simp
  rw [this, opens]; simp
theorem tx_tail {op : StrS} {w : KS.den} {rest : Leafs} (ho : Other op w rest) : ∀ (g : Leafs) (s : StrS), (∀ x ∈ g, ∃ u t, x.1 = op ++ w :: u :: t) →
    tx op.length (op ++ w :: s) (g ++ rest) = tx (op.length + 1) (op ++ w :: s) g ++ (blanks op.length ++ [125, 10]) ++ tx op.length op rest
  | [], s, _ => by
    rw [List.nil_append]
    show _ = closes (op ++ w :: s).length (op.length + 1) ++ _ ++ _
    rw [← closes_split (op ++ w :: s).length (by simp)]
    cases rest with
    | nil => rw [tx, tx, closes_end (Nat.le_refl _), List.append_nil]
    | cons y r =>
      obtain ⟨w2, t, hy, hw⟩ := ho
      rw [tx, tx, hy, com_other hw, com_op, closes_end (j := op.length) (Nat.le_refl _)]
      simp only [List.nil_append, List.append_assoc]
  | x :: g, s, hg => by
    obtain ⟨u, t, hx⟩ := hg x List.mem_cons_self
    have ih := tx_tail ho g ((u :: t).take t.length) (fun y hy => hg y (List.mem_cons_of_mem _ hy))
    rw [List.cons_append, tx, tx, hx, front2, ih]
    simp only [List.append_assoc]
theorem tx_group {op : StrS} {w : KS.den} {rest : Leafs} (ho : Other op w rest) (x : KRLSzSz.den) (g : Leafs) (hg : ∀ y ∈ x :: g, ∃ u t, y.1 = op ++ w :: u :: t) :
    tx op.length op (x :: g ++ rest) = (blanks op.length ++ w.1 ++ [32, 123, 10]) ++ tx (op.length + 1) (op ++ [w]) (x :: g) ++ (blanks op.length ++ [125, 10]) ++ tx op.length op rest := by
  obtain ⟨u, t, hx⟩ := hg x List.mem_cons_self
  have h1 := tx_tail ho g ((u :: t).take t.length) (fun y hy => hg y (List.mem_cons_of_mem _ hy))
  have e1 : com (op ++ [w]) ((op ++ w :: u :: t).take ((op ++ w :: u :: t).length - 1)) = op.length + 1 := by
    rw [front2, show op ++ w :: (u :: t).take t.length = (op ++ [w]) ++ (u :: t).take t.length by simp, com_self]; simp
  rw [List.cons_append, tx, tx, hx, com_op, e1, front2, h1, closes_end (j := op.length) (Nat.le_refl _), closes_end (j := (op ++ [w]).length) (by simp)]
  have e2 : (op ++ w :: u :: t).length - 1 - op.length = t.length + 1 := by simp
  have e3 : (op ++ w :: u :: t).length - 1 - (op.length + 1) = t.length := by simp; omega
  rw [e2, e3, opens, ix_mid]
  simp only [List.nil_append, List.append_assoc]

end Go.Proofs.YtifpekpmnlcmoaaE
