/- The engine, part 1: type codes, data, and what it says that a value reads as a datum. -/
import Derived.WalkKit
import Derived.OwnWalk
import Derived.Below
import Derived.Deep.Quiet
import Derived.Lib.QuietBelow
set_option linter.unusedVariables false
set_option linter.unusedSimpArgs false
namespace Go.Proofs.YtifpekpmnlcmoaaE
open Go

mutual
/-- A cell's type code. -/
inductive Ty
  | i (k : IntKind)
  | b
  | s
  | l (ts : Tys)
  | v
/-- The cells of a flat value, one behind the other. -/
inductive Tys
  | nil
  | cons (t : Ty) (ts : Tys)
end

mutual
@[reducible] def Ty.den : Ty → Type
  | .i _ => Int
  | .b => Bool
  | .s => List UInt8
  | .l ts => List ts.den
  | .v => Value
@[reducible] def Tys.den : Tys → Type
  | .nil => Unit
  | .cons t ts => t.den × ts.den
end

@[reducible] def Tys.sz : Tys → Nat
  | .nil => 0
  | .cons _ ts => ts.sz + 1

/-- A text as a value. -/
def str (x : List UInt8) : Value := .string ⟨⟨x⟩⟩

/-- The first cells from place p on are these. -/
def At (w : World) (b p : Nat) (cs : List Value) : Prop := ∀ (i : Nat) (u : Value), cs[i]? = some u → w.cell? ⟨b, p + i, none⟩ = some u

mutual
/-- The value v reads as x in w; every block that is read is ok. -/
def RS (w : World) (ok : Nat → Prop) : (t : Ty) → t.den → Value → Prop
  | .i k, n, v => v = .int k n ∧ k.wrap n = n
  | .b, x, v => v = .bool x
  | .s, x, v => v = str x ∧ x.length ≤ 9223372036854775807
  | .l ts, xs, v => ∃ A c, v = .slice A xs.length c ∧ xs.length ≤ c ∧ c ≤ 9223372036854775807 ∧
      (xs ≠ [] → ∃ b p, A = some ⟨b, p, none⟩ ∧ ok b ∧ b < w.heap.size ∧
        ∀ (j : Nat) (x : ts.den), xs[j]? = some x → ∃ cs, RSs w ok ts x cs ∧ At w b (p + j * ts.sz) cs)
  | .v, x, v => v = x ∧ x.oneCell' = true
def RSs (w : World) (ok : Nat → Prop) : (ts : Tys) → ts.den → List Value → Prop
  | .nil, _, cs => cs = []
  | .cons t ts, (x, xs), cs => ∃ v cs', cs = v :: cs' ∧ RS w ok t x v ∧ RSs w ok ts xs cs'
end

theorem RSs_len {w : World} {ok : Nat → Prop} : ∀ (ts : Tys) (x : ts.den) (cs : List Value), RSs w ok ts x cs → cs.length = ts.sz
  | .nil, _, cs, h => by simp only [RSs] at h; rw [h]; rfl
  | .cons t ts, (x, xs), cs, h => by
    simp only [RSs] at h
    obtain ⟨v, cs', rfl, _, h2⟩ := h
    simp [RSs_len ts xs cs' h2, Tys.sz]

theorem At_mono {w w' : World} {b p : Nat} {cs : List Value} (h : At w b p cs) (hb : w'.heap[b]? = w.heap[b]?) : At w' b p cs := fun i u hu => by
  rw [World.cell?_of_block (w := w) (w' := w') (a := ⟨b, p + i, none⟩) hb]; exact h i u hu

mutual
theorem RS_mono {w w' : World} {ok ok' : Nat → Prop} (hs : w.heap.size ≤ w'.heap.size) (h : ∀ b, ok b → b < w.heap.size → ok' b ∧ w'.heap[b]? = w.heap[b]?) :
    ∀ (t : Ty) (x : t.den) (v : Value), RS w ok t x v → RS w' ok' t x v
  | .i k, n, v, hr => by simpa only [RS] using hr
  | .b, n, v, hr => by simpa only [RS] using hr
  | .s, n, v, hr => by simpa only [RS] using hr
  | .l ts, xs, v, hr => by
    simp only [RS] at hr ⊢
    obtain ⟨A, c, hv, hc, hm, hrow⟩ := hr
    refine ⟨A, c, hv, hc, hm, fun hne => ?_⟩
    obtain ⟨b, p, hA, hok, hlt, hx⟩ := hrow hne
    refine ⟨b, p, hA, (h b hok hlt).1, by omega, fun j x hj => ?_⟩
    obtain ⟨cs, h1, h2⟩ := hx j x hj
    exact ⟨cs, RSs_mono hs h ts x cs h1, At_mono h2 (h b hok hlt).2⟩
  | .v, x, v, hr => by simpa only [RS] using hr
theorem RSs_mono {w w' : World} {ok ok' : Nat → Prop} (hs : w.heap.size ≤ w'.heap.size) (h : ∀ b, ok b → b < w.heap.size → ok' b ∧ w'.heap[b]? = w.heap[b]?) :
    ∀ (ts : Tys) (x : ts.den) (cs : List Value), RSs w ok ts x cs → RSs w' ok' ts x cs
  | .nil, _, cs, hr => by simpa only [RSs] using hr
  | .cons t ts, (x, xs), cs, hr => by
    simp only [RSs] at hr ⊢
    obtain ⟨v, cs', hc, h1, h2⟩ := hr
    exact ⟨v, cs', hc, RS_mono hs h t x v h1, RSs_mono hs h ts xs cs' h2⟩
end

/-- Every cell that is read holds one cell's value. -/
theorem RS_one {w : World} {ok : Nat → Prop} : ∀ (t : Ty) (x : t.den) (v : Value), RS w ok t x v → v.oneCell' = true
  | .i k, n, v, h => by simp only [RS] at h; rw [h.1]; rfl
  | .b, n, v, h => by simp only [RS] at h; rw [h]; rfl
  | .s, n, v, h => by simp only [RS] at h; rw [h.1]; rfl
  | .l ts, xs, v, h => by simp only [RS] at h; obtain ⟨A, c, rfl, _⟩ := h; rfl
  | .v, x, v, h => by simp only [RS] at h; rw [h.1]; exact h.2
theorem RSs_one {w : World} {ok : Nat → Prop} : ∀ (ts : Tys) (x : ts.den) (cs : List Value), RSs w ok ts x cs → ∀ u ∈ cs, u.oneCell' = true
  | .nil, _, cs, h => by simp only [RSs] at h; subst h; simp
  | .cons t ts, (x, xs), cs, h => by
    simp only [RSs] at h
    obtain ⟨v, cs', rfl, h1, h2⟩ := h
    intro u hu
    rcases List.mem_cons.1 hu with rfl | hu
    · exact RS_one t x _ h1
    · exact RSs_one ts xs cs' h2 u hu

/- Short names. -/
theorem q1 : type_of% @decide_eq_true_eq := @decide_eq_true_eq
theorem q2 : type_of% @decide_eq_false_iff_not := @decide_eq_false_iff_not
theorem q3 : type_of% @beq_iff_eq := @beq_iff_eq
theorem q4 : type_of% @bne_iff_ne := @bne_iff_ne
theorem q5 : type_of% @Bool.not_eq_true' := @Bool.not_eq_true'
theorem q6 : type_of% @Bool.not_eq_false' := @Bool.not_eq_false'
theorem q7 : type_of% @beq_eq_false_iff_ne := @beq_eq_false_iff_ne
theorem q8 : type_of% @bne_eq_false_iff_eq := @bne_eq_false_iff_eq
theorem q9 : type_of% @Bool.not_not := @Bool.not_not
theorem q10 : type_of% @ne_eq := @ne_eq
theorem q11 : type_of% @Int.not_lt := @Int.not_lt
theorem q12 : type_of% @Int.not_le := @Int.not_le
theorem q13 : type_of% @gt_iff_lt := @gt_iff_lt
theorem q14 : type_of% @ge_iff_le := @ge_iff_le
theorem q15 : type_of% @Bool.not_eq_true := @Bool.not_eq_true
theorem q16 : type_of% @Bool.not_eq_false := @Bool.not_eq_false
theorem q17 : type_of% @Decidable.not_not := @Decidable.not_not
end Go.Proofs.YtifpekpmnlcmoaaE
