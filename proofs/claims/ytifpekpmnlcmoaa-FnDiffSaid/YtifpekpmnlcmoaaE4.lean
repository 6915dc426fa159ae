/- The engine, part 4: steps of the abstract state; operands; rules for operations that only compute. -/
import Derived.Test.YtifpekpmnlcmoaaE3
set_option linter.unusedVariables false
set_option linter.unusedSimpArgs false
namespace Go.Proofs.YtifpekpmnlcmoaaE
open Go Go.RowKit

theorem put_size (a : Act) (d : Option Nat) (v : Value) : (a.put d v).tmps.size = a.tmps.size := by cases d <;> simp [Act.put]
theorem put_defers (a : Act) (d : Option Nat) (v : Value) : (a.put d v).defers = a.defers := by cases d <;> rfl
theorem put_get {a : Act} {d t : Nat} {v : Value} (hd : d < a.tmps.size) : (a.put (some d) v).tmps.getD t undef = if t = d then v else a.tmps.getD t undef := by
  simp only [Act.put, Array.getD_eq_getD_getElem?]
  by_cases h : t = d
  · subst h; simp [hd]
  · simp [h, Array.getElem?_setIfInBounds_ne (Ne.symm h)]

section
variable {P : Program} {X : Cx} {Q : Exit → Act → World → Prop} {tm : Tm} {ob : List Ob} {a : Act} {w : World}

theorem kp_step {G : Gh} {w' : World} (hs : Kp X.S0 X.w0 w) (hG : GOK X ob G w) (hk : Kp (fps G) w w') : Kp X.S0 X.w0 w' :=
  ⟨hk.os.trans hs.os, hk.tape.trans hs.tape, hk.output.trans hs.output, Nat.le_trans hs.size hk.size, fun i hi hn =>
    (hk.block i (Nat.lt_of_lt_of_le hi hs.size) (fun hm => by rcases (hG.lt i hm).2 with h | h; exact hn h; omega)).trans (hs.block i hi hn)⟩

theorem mv_step {G G' : Gh} {w' : World} (hk : Kp (fps G) w w') (hh : ∀ (k : Nat) (v : Value) (g : List Nat), G[k]? = some (v, g) → ∃ g', G'[k]? = some (v, g'))
    (hok : ∀ b ∈ fps G', b ∈ fps G ∨ w.heap.size ≤ b) : Mv w w' (okG X.Z G) (okG X.Z G') G G' (fun k => k) :=
  ⟨hk.size, fun b hb hlt => ⟨⟨fun hm => (hok b hm).elim hb.1 (fun h => by omega), hb.2⟩, hk.block b hlt hb.1⟩, hh⟩

/-- The abstract state after a step: nothing but one's own blocks has changed. -/
theorem sim_step0 (hs : Sim X tm ob a w) {G G' : Gh} {ob' : List Ob} {w' : World}
    (hG : GOK X ob G w) (hv : ∀ t av, get tm t = some av → t < X.N ∧ VR w (okG X.Z G) G av (a.tmps.getD t undef))
    (hk : Kp (fps G) w w') (hG' : GOK X ob' G' w') (hh : ∀ (k : Nat) (v : Value) (g : List Nat), G[k]? = some (v, g) → ∃ g', G'[k]? = some (v, g'))
    (hok : ∀ b ∈ fps G', b ∈ fps G ∨ w.heap.size ≤ b) : Sim X tm ob' a w' :=
  ⟨hs.n, hs.d, kp_step hs.kp hG hk, G', hG', fun t av' ht => ⟨(hv t av' ht).1, VR_mv' (mv_step hk hh hok) (hv t av' ht).2⟩⟩

theorem sim_put (hs : Sim X tm ob a w) {G : Gh} (hG : GOK X ob G w) (hv : ∀ t av, get tm t = some av → t < X.N ∧ VR w (okG X.Z G) G av (a.tmps.getD t undef))
    {d : Nat} {av : AV} {v : Value} (hd : d < X.N) (hvr : VR w (okG X.Z G) G av v) : Sim X ((d, av) :: tm) ob (a.put (some d) v) w := by
  refine ⟨by rw [put_size]; exact hs.n, by rw [put_defers]; exact hs.d, hs.kp, G, hG, fun t av' ht => ?_⟩
  rw [put_get (by rw [hs.n]; exact hd)]
  by_cases h : t = d
  · subst h
    simp only [get, if_true, Option.some.injEq] at ht
    subst ht
    exact ⟨hd, by simpa using hvr⟩
  · simp only [get, if_neg (Ne.symm h)] at ht
    simpa [h] using hv t av' ht

theorem sim_step (hs : Sim X tm ob a w) {G G' : Gh} {ob' : List Ob} {w' : World}
    (hG : GOK X ob G w) (hv : ∀ t av, get tm t = some av → t < X.N ∧ VR w (okG X.Z G) G av (a.tmps.getD t undef))
    (hk : Kp (fps G) w w') (hG' : GOK X ob' G' w') (hh : ∀ (k : Nat) (v : Value) (g : List Nat), G[k]? = some (v, g) → ∃ g', G'[k]? = some (v, g'))
    (hok : ∀ b ∈ fps G', b ∈ fps G ∨ w.heap.size ≤ b) {d : Nat} {av : AV} {v : Value} (hd : d < X.N) (hvr : VR w' (okG X.Z G') G' av v) :
    Sim X ((d, av) :: tm) ob' (a.put (some d) v) w' :=
  sim_put (sim_step0 hs hG hv hk hG' hh hok) hG' (fun t av' ht => ⟨(hv t av' ht).1, VR_mv' (mv_step hk hh hok) (hv t av' ht).2⟩) hd hvr

/-- An operand's abstract value. -/
def cst : Value → Option AV
  | .int k n => if k.wrap n = n then some (.c (.i k) n) else none
  | .bool b => some (.c .b b)
  | .string s => if s.data.toList.length ≤ 9223372036854775807 then some (.c .s s.data.toList) else none
  | .slice none 0 0 => some .nl
  | .pointer none => some .np
  | _ => none
def rd (tm : Tm) : Operand → Option AV
  | .tmp t => get tm t
  | .const v => cst v
  | .func f => some (.fn f [])
  | .global _ => none

theorem cst_ok {v : Value} {av : AV} (h : cst v = some av) (ok : Nat → Prop) (G : Gh) : VR w ok G av v := by
  unfold cst at h
  split at h
  · split at h
    · cases h; rename_i k n hw; exact ⟨rfl, hw⟩
    · cases h
  · cases h; rfl
  · split at h
    · cases h; rename_i s hw; exact ⟨rfl, hw⟩
    · cases h
  · cases h; rfl
  · cases h; rfl
  · cases h

theorem rd_ok {G : Gh} (hv : ∀ t av, get tm t = some av → t < X.N ∧ VR w (okG X.Z G) G av (a.tmps.getD t undef)) {x : Operand} {av : AV} (h : rd tm x = some av) : VR w (okG X.Z G) G av (a.eval x) := by
  cases x with
  | tmp t => exact (hv t av h).2
  | const v => exact cst_ok h _ _
  | func f => simp only [rd, Option.some.injEq] at h; subst h; exact ⟨[], rfl, rfl⟩
  | global g => cases h

/-- The operation is carried out. -/
def Wn (ops : Array Oper) (o : Oper) (tm : Tm) : Prop :=
  o.guard = none ∨ ∃ j want t, o.guard = some (j, want) ∧ (ops[j]?).bind (·.dst) = some t ∧ get tm t = some (.c .b want)
theorem wn_ok {ops : Array Oper} {o : Oper} (h : Wn ops o tm) (hs : Sim X tm ob a w) : Region.wanted o (yielded ops a.tmps) = true := by
  rcases h with h | ⟨j, want, t, h1, h2, h3⟩
  · simp [Region.wanted, h]
  · obtain ⟨G, hG, hv⟩ := hs.ex
    obtain ⟨hn, hr⟩ := hv t _ h3
    simp only [VR, RS] at hr
    have hlt : t < a.tmps.size := by rw [hs.n]; exact hn
    have : a.tmps[t]? = some (.bool want) := by
      rw [Array.getD_eq_getD_getElem?, Array.getElem?_eq_getElem hlt] at hr
      rw [Array.getElem?_eq_getElem hlt]
      simpa using hr
    simp [Region.wanted, h1, yielded, h2, this]

/-- An operation that is run. -/
theorem orun {ops : Array Oper} {o : Oper} {rest : List Oper} {tm' : Tm} {ob' : List Ob} (hw : Wn ops o tm)
    (h : ∀ a w, Sim X tm ob a w → ∃ v w', (execOp a.eval o).run P w = .ok (.value v) w' ∧ Sim X tm' ob' (a.put o.dst v) w')
    (hr : OV P X ops Q rest tm' ob') : OV P X ops Q (o :: rest) tm ob := fun a w hs => by
  refine wpList_step fun K hK => ?_
  rw [if_pos (wn_ok hw hs)]
  obtain ⟨v, w', h1, h2⟩ := h a w hs
  unfold Oper.wp
  rw [h1]
  exact hK _ _ (hr _ _ h2)
theorem orun0 {ops : Array Oper} {o : Oper} {rest : List Oper} {tm' : Tm} {ob' : List Ob} (hw : Wn ops o tm)
    (h : ∀ a w, Sim X tm ob a w → ∃ w', (execOp a.eval o).run P w = .ok .skip w' ∧ Sim X tm' ob' (a.put o.dst undef) w')
    (hr : OV P X ops Q rest tm' ob') : OV P X ops Q (o :: rest) tm ob := fun a w hs => by
  refine wpList_step fun K hK => ?_
  rw [if_pos (wn_ok hw hs)]
  obtain ⟨w', h1, h2⟩ := h a w hs
  unfold Oper.wp
  rw [h1]
  exact hK _ _ (hr _ _ h2)
/-- An operation whose guard says no. -/
theorem oskip {ops : Array Oper} {o : Oper} {rest : List Oper} {j t d : Nat} {want x : Bool} (hg : o.guard = some (j, want)) (hj : (ops[j]?).bind (·.dst) = some t) (ht : get tm t = some (.c .b x)) (hx : (x == want) = false)
    (hd : o.dst = some d) (hN : d < X.N) (hr : OV P X ops Q rest ((d, .tup []) :: tm) ob) : OV P X ops Q (o :: rest) tm ob := fun a w hs => by
  refine wpList_step fun K hK => ?_
  obtain ⟨G, hG, hv⟩ := hs.ex
  obtain ⟨hn, hrr⟩ := hv t _ ht
  simp only [VR, RS] at hrr
  have hlt : t < a.tmps.size := by rw [hs.n]; exact hn
  have h5 : a.tmps[t]? = some (.bool x) := by
    rw [Array.getD_eq_getD_getElem?, Array.getElem?_eq_getElem hlt] at hrr
    rw [Array.getElem?_eq_getElem hlt]
    simpa using hrr
  have : Region.wanted o (yielded ops a.tmps) = false := by
    simp only [Region.wanted, hg, yielded, hj, Option.bind_some, h5]
    cases x <;> cases want <;> first | rfl | cases hx
  rw [if_neg (by rw [this]; simp)]
  refine hK _ _ (hr _ _ ?_)
  rw [hd]
  exact sim_put hs hG hv hN ⟨[], rfl, rfl⟩
theorem oskipu {ops : Array Oper} {o : Oper} {rest : List Oper} {j t d : Nat} {want : Bool} (hg : o.guard = some (j, want)) (hj : (ops[j]?).bind (·.dst) = some t) (ht : get tm t = some (.tup []))
    (hd : o.dst = some d) (hN : d < X.N) (hr : OV P X ops Q rest ((d, .tup []) :: tm) ob) : OV P X ops Q (o :: rest) tm ob := fun a w hs => by
  refine wpList_step fun K hK => ?_
  obtain ⟨G, hG, hv⟩ := hs.ex
  obtain ⟨hn, hrr⟩ := hv t _ ht
  simp only [VR, VRs] at hrr
  obtain ⟨vs, hrr, rfl⟩ := hrr
  have hlt : t < a.tmps.size := by rw [hs.n]; exact hn
  have h5 : a.tmps[t]? = some (.tuple #[]) := by
    rw [Array.getD_eq_getD_getElem?, Array.getElem?_eq_getElem hlt] at hrr
    rw [Array.getElem?_eq_getElem hlt]
    simpa using hrr
  have : Region.wanted o (yielded ops a.tmps) = false := by
    simp only [Region.wanted, hg, yielded, hj, Option.bind_some, h5]
    rfl
  rw [if_neg (by rw [this]; simp)]
  refine hK _ _ (hr _ _ ?_)
  rw [hd]
  exact sim_put hs hG hv hN ⟨[], rfl, rfl⟩
/-- A Bool that is not known: both ways. -/
theorem ocase {ops : Array Oper} {l : List Oper} {t : Nat} {x : Bool} (ht : get tm t = some (.c .b x))
    (h1 : x = true → OV P X ops Q l ((t, .c .b true) :: tm) ob) (h2 : x = false → OV P X ops Q l ((t, .c .b false) :: tm) ob) : OV P X ops Q l tm ob := fun a w hs => by
  obtain ⟨G, hG, hv⟩ := hs.ex
  have key : ∀ y, x = y → Sim X ((t, .c .b y) :: tm) ob a w := fun y hy => by
    refine ⟨hs.n, hs.d, hs.kp, G, hG, fun t' av' ht' => ?_⟩
    by_cases h : t' = t
    · subst h
      simp only [get, if_true, Option.some.injEq] at ht'
      subst ht' hy
      exact hv _ _ ht
    · simp only [get, if_neg (Ne.symm h)] at ht'
      exact hv _ _ ht'
  cases hx : x with
  | true => exact h1 hx a w (key _ hx)
  | false => exact h2 hx a w (key _ hx)

/-- A value that is computed, the world being left alone: the same in every world that only has more. -/
def Val (P : Program) (X : Cx) (tm : Tm) (ob : List Ob) (o : Oper) (av : AV) : Prop :=
  ∀ (a : Act) (w : World) (G : Gh), GOK X ob G w → (∀ x av, rd tm x = some av → VR w (okG X.Z G) G av (a.eval x)) →
    ∃ v, (∀ w' : World, Kp X.Z w w' → (execOp a.eval o).run P w' = .ok (.value v) w') ∧ VR w (okG X.Z G) G av v

theorem o {ops : Array Oper} {o : Oper} {rest : List Oper} {d : Nat} {av : AV} (hw : Wn ops o tm) (hN : d < X.N) (h : Val P X tm ob o av) (hd : o.dst = some d)
    (hr : OV P X ops Q rest ((d, av) :: tm) ob) : OV P X ops Q (o :: rest) tm ob :=
  orun hw (fun a w hs => by
    obtain ⟨G, hG, hv⟩ := hs.ex
    obtain ⟨v, h1, h2⟩ := h a w G hG (fun x av hx => rd_ok hv hx)
    exact ⟨v, w, h1 w (Kp.refl _ _), by rw [hd]; exact sim_put hs hG hv hN h2⟩) hr
end
end Go.Proofs.YtifpekpmnlcmoaaE
