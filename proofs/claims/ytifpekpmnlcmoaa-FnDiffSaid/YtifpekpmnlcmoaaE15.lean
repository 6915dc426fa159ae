/- The engine, part 15: regions that draw their order; results. -/
import Derived.Test.YtifpekpmnlcmoaaE14
set_option linter.unusedVariables false
set_option linter.unusedSimpArgs false
namespace Go.Proofs.YtifpekpmnlcmoaaE
open Go Go.RowKit

/-- The value of a datum without rows. -/
@[reducible] def fv : (t : Ty) → t.den → Value
  | .i k, n => .int k n
  | .b, x => .bool x
  | .s, x => str x
  | .l _, _ => .slice none 0 0
  | .v, x => x
theorem fv_eq {w : World} {ok : Nat → Prop} {t : Ty} {x : t.den} {v : Value} (hf : t.flat = true) (h : RS w ok t x v) : v = fv t x := by
  cases t with
  | i k => simp only [RS] at h; exact h.1
  | b => simp only [RS] at h; exact h
  | s => simp only [RS] at h; exact h.1
  | l ts => cases hf
  | v => simp only [RS] at h; exact h.1
theorem fv_RS {w : World} {ok ok' : Nat → Prop} {w' : World} {t : Ty} {x : t.den} {v : Value} (hf : t.flat = true) (h : RS w ok t x v) : RS w' ok' t x (fv t x) := by
  cases t with
  | i k => simp only [RS] at h; exact ⟨rfl, h.2⟩
  | b => rfl
  | s => simp only [RS] at h; exact ⟨rfl, h.2⟩
  | l ts => cases hf
  | v => simp only [RS] at h; exact ⟨rfl, h.2⟩

section
variable {P : Program} {X : Cx} {Q : Exit → Act → World → Prop} {tm : Tm} {ob : List Ob} {a : Act} {w w' : World} {G G' : Gh}

theorem gok_kp (hG : GOK X ob G w) (hk : Kp [] w w') : GOK X ob G w' := by
  have m : Mv w w' (okG X.Z G) (okG X.Z G) G G (fun k => k) := ⟨hk.size, fun b hb hlt => ⟨hb, hk.block b hlt (by simp)⟩, fun k v g h => ⟨g, h⟩⟩
  exact ⟨hG.len, hG.nodup, fun b hb => ⟨Nat.lt_of_lt_of_le (hG.lt b hb).1 hk.size, (hG.lt b hb).2⟩, hG.z, hG.zl, hG.hd, fun k o g h1 h2 => OR_mv' m (fun b hb => hk.block b (hG.lt b (fps_mem h2 hb)).1 (by simp)) (hG.ob k o g h1 h2)⟩
theorem vr_kp (hG : GOK X ob G w) (hk : Kp [] w w') {av : AV} {v : Value} (h : VR w (okG X.Z G) G av v) : VR w' (okG X.Z G) G av v :=
  VR_mv' ⟨hk.size, fun b hb hlt => ⟨hb, hk.block b hlt (by simp)⟩, fun k v g h => ⟨g, h⟩⟩ h
theorem sim_kp (hs : Sim X tm ob a w) (hk : Kp [] w w') : Sim X tm ob a w' := by
  obtain ⟨G, hG, hv⟩ := hs.ex
  refine ⟨hs.n, hs.d, ⟨hk.os.trans hs.kp.os, hk.tape.trans hs.kp.tape, hk.output.trans hs.kp.output, Nat.le_trans hs.kp.size hk.size, fun i hi hn => (hk.block i (Nat.lt_of_lt_of_le hi hs.kp.size) (by simp)).trans (hs.kp.block i hi hn)⟩, G, gok_kp hG hk, fun t av ht => ⟨(hv t av ht).1, vr_kp hG hk (hv t av ht).2⟩⟩

/-- The rest of a region that draws its order: every operation the same in every world that only has more. -/
def QV (P : Program) (X : Cx) (ops : Array Oper) (Q : Exit → Act → World → Prop) (l : List Oper) (tm : Tm) (ob : List Ob) : Prop :=
  ∀ a w, Sim X tm ob a w → wpQuiet P ops (Kp [] w) (fun a' => ∀ w', Kp [] w w' → Q .normal a' w') l a
theorem cregd {id : Nat} {l : List Oper} (hm : P.follows .mixedOrders = true) (hB : Region.lexB .any l.toArray = true) (h : QV P X l.toArray Q l tm ob) : CV P X (.region id l.toArray true) Q tm ob := fun a w hs =>
  wp_region_quiet (C := Kp [] w) hm hB (Kp.refl [] w).drew (by simpa using h a w hs)

variable {ops : Array Oper} {o : Oper} {rest : List Oper}
theorem qnil (h : XV X .normal Q tm ob) : QV P X ops Q [] tm ob := fun a w hs w' hk => h a w' (sim_kp hs hk)
theorem qo {d : Nat} {av : AV} (hw : Wn ops o tm) (hN : d < X.N) (h : Val P X tm ob o av) (hd : o.dst = some d) (hr : QV P X ops Q rest ((d, av) :: tm) ob) : QV P X ops Q (o :: rest) tm ob := fun a w hs => by
  obtain ⟨G, hG, hv⟩ := hs.ex
  obtain ⟨v, h1, h2⟩ := h a w G hG (fun x av hx => rd_ok hv hx)
  unfold wpQuiet
  rw [if_pos (wn_ok hw hs)]
  refine ⟨v, fun w' hw' => ?_, ?_⟩
  · unfold Oper.quietAt
    rw [h1 w' (hw'.mono (by simp))]
    exact ⟨rfl, rfl⟩
  · rw [hd]
    exact hr _ _ (sim_put hs hG hv hN h2)
theorem qskip {j t d : Nat} {want x : Bool} (hg : o.guard = some (j, want)) (hj : (ops[j]?).bind (·.dst) = some t) (ht : get tm t = some (.c .b x)) (hx : (x == want) = false)
    (hd : o.dst = some d) (hN : d < X.N) (hr : QV P X ops Q rest ((d, .tup []) :: tm) ob) : QV P X ops Q (o :: rest) tm ob := fun a w hs => by
  obtain ⟨G, hG, hv⟩ := hs.ex
  obtain ⟨hn, hrr⟩ := hv t _ ht
  simp only [VR, RS] at hrr
  have hlt : t < a.tmps.size := by rw [hs.n]; exact hn
  have h5 : a.tmps[t]? = some (.bool x) := by
    rw [Array.getD_eq_getD_getElem?, Array.getElem?_eq_getElem hlt] at hrr
    rw [Array.getElem?_eq_getElem hlt]
    simpa using hrr
  have : Region.wanted o (yielded ops a.tmps) = false := by
    simp only [Region.wanted, hg, yielded, hj, Option.bind_some, h5]
    cases x <;> cases want <;> first | rfl | cases hx
  unfold wpQuiet
  rw [if_neg (by rw [this]; simp), hd]
  exact hr _ _ (sim_put hs hG hv hN ⟨[], rfl, rfl⟩)
theorem qskipu {j t d : Nat} {want : Bool} (hg : o.guard = some (j, want)) (hj : (ops[j]?).bind (·.dst) = some t) (ht : get tm t = some (.tup []))
    (hd : o.dst = some d) (hN : d < X.N) (hr : QV P X ops Q rest ((d, .tup []) :: tm) ob) : QV P X ops Q (o :: rest) tm ob := fun a w hs => by
  obtain ⟨G, hG, hv⟩ := hs.ex
  obtain ⟨hn, hrr⟩ := hv t _ ht
  simp only [VR, VRs] at hrr
  obtain ⟨vs, hrr, rfl⟩ := hrr
  have hlt : t < a.tmps.size := by rw [hs.n]; exact hn
  have h5 : a.tmps[t]? = some (.tuple #[]) := by
    rw [Array.getD_eq_getD_getElem?, Array.getElem?_eq_getElem hlt] at hrr
    rw [Array.getElem?_eq_getElem hlt]
    simpa using hrr
  have : Region.wanted o (yielded ops a.tmps) = false := by
    simp only [Region.wanted, hg, yielded, hj, Option.bind_some, h5]
    rfl
  unfold wpQuiet
  rw [if_neg (by rw [this]; simp), hd]
  exact hr _ _ (sim_put hs hG hv hN ⟨[], rfl, rfl⟩)
theorem qcase {l : List Oper} {t : Nat} {x : Bool} (ht : get tm t = some (.c .b x))
    (h1 : x = true → QV P X ops Q l ((t, .c .b true) :: tm) ob) (h2 : x = false → QV P X ops Q l ((t, .c .b false) :: tm) ob) : QV P X ops Q l tm ob := fun a w hs => by
  obtain ⟨G, hG, hv⟩ := hs.ex
  have key : ∀ y, x = y → Sim X ((t, .c .b y) :: tm) ob a w := fun y hy => by
    refine ⟨hs.n, hs.d, hs.kp, G, hG, fun t' av' ht' => ?_⟩
    by_cases h : t' = t
    · subst h
      simp only [get, if_true, Option.some.injEq] at ht'
      subst ht' hy
      exact hv _ _ ht
    · simp only [get, if_neg (Ne.symm h)] at ht'
      exact hv _ _ ht'
  cases hx : x with
  | true => exact h1 hx a w (key _ hx)
  | false => exact h2 hx a w (key _ hx)
theorem qwk {l : List Oper} {tm' : Tm} {ob' : List Ob} (hw : Wk X tm ob tm' ob') (h : QV P X ops Q l tm' ob') : QV P X ops Q l tm ob := fun a w hs => h a w (hw a w hs)
theorem qfact {l : List Oper} {t : Nat} {ts : Tys} {xs : List ts.den} (ht : get tm t = some (.c (.l ts) xs)) (h : xs.length ≤ 9223372036854775807 → QV P X ops Q l tm ob) : QV P X ops Q l tm ob := fun a w hs => by
  obtain ⟨G, hG, hv⟩ := hs.ex
  have h' := (hv t _ ht).2
  simp only [VR, RS] at h'
  obtain ⟨A, c, _, hc, hm, _⟩ := h'
  exact h (by omega) a w hs
theorem qfacts {l : List Oper} {t : Nat} {xs : List UInt8} (ht : get tm t = some (.c .s xs)) (h : xs.length ≤ 9223372036854775807 → QV P X ops Q l tm ob) : QV P X ops Q l tm ob := fun a w hs => by
  obtain ⟨G, hG, hv⟩ := hs.ex
  exact h (vr_s (hv t _ ht).2).2 a w hs

/-- A call in such a region: what it returns has no rows. -/
theorem qcallG {f : Nat} {ι : Type} {avf : ι → List AV} {obf : ι → List Ob} {pre : ι → Prop} {F : ι → AV × List Ob} (hF : Fn P f avf obf pre F) (x : ι) (hx : pre x) (vs : List Nat) {t : Ty} {y : t.den} (hf : t.flat = true) (hFx : F x = (.c t y, [])) (hox : obf x = [])
    (hw : Wn ops o tm) {d : Nat} (hd : o.dst = some d) (hN : d < X.N)
    (hrun : ∀ a w, Sim X tm ob a w → ∃ vals : List Value, (∀ w', Kp [] w w' → (execOp a.eval o).run P w' = .ok (.enter f ⟨vals⟩) w') ∧ 
      ∀ w', Kp [] w w' → ∀ G, GOK X ob G w' → (∀ t av, get tm t = some av → t < X.N ∧ VR w' (okG X.Z G) G av (a.tmps.getD t undef)) → ∀ (Zc : List Nat) (Gc : Gh), Mv w' w' (okG X.Z G) (okG Zc Gc) G Gc (kf ob.length []) →
      (∀ k ∈ vs, ∀ g, G[k]? = some g → ∀ b ∈ g.2, okG Zc Gc b) → VRs w' (okG Zc Gc) Gc (avf x) vals)
    (hr : QV P X ops Q rest ((d, .c t y) :: tm) ob) : QV P X ops Q (o :: rest) tm ob := fun a w hs => by
  obtain ⟨G, hG, hv⟩ := hs.ex
  obtain ⟨vals, h1, h2⟩ := hrun a w hs
  have key : ∀ w', Kp [] w w' → Calls P f ⟨vals⟩ w' fun e w'' => (e = .returned (fv t y) ∧ Kp [] w w'') ∧ RS w'' (fun _ => False) t y (fv t y) := fun w' hk => by
    have hG' := gok_kp hG hk
    have hs' := sim_kp hs hk
    have hv' : ∀ t av, get tm t = some av → t < X.N ∧ VR w' (okG X.Z G) G av (a.tmps.getD t undef) := fun t av ht => ⟨(hv t av ht).1, vr_kp hG hk (hv t av ht).2⟩
    obtain ⟨g1, g2, g3, _⟩ := call_in (ks := []) (vs := vs) hG' hs'.kp.size List.nodup_nil (by simp) (obc := []) .n
    refine (hF x hx w' (pickG G []) (zc X G [] vs) vals (by rw [hox]; exact g1) (h2 w' hk G hG' hv' _ _ g2 g3)).mono ?_
    rintro e w'' ⟨v, G2, rfl, hk2, hG2, hr⟩
    rw [hFx] at hr
    simp only [VR] at hr
    have e1 := fv_eq hf hr
    refine ⟨⟨by rw [e1], hk.trans (by simpa [pickG, fps] using hk2)⟩, fv_RS hf hr⟩
  unfold wpQuiet
  rw [if_pos (wn_ok hw hs)]
  refine ⟨fv t y, fun w' hw' => ?_, ?_⟩
  · unfold Oper.quietAt
    rw [h1 w' hw']
    exact ⟨rfl, (key w' hw').mono fun e w'' h => h.1⟩
  · have hRS : RS w (okG X.Z G) t y (fv t y) := by
      obtain ⟨e, w1, fr, hR, _⟩ := key w (Kp.refl _ _) []
      exact fv_RS hf hR.2
    rw [hd]
    exact hr _ _ (sim_put hs hG hv hN hRS)
variable {dst : Option Nat} {ty : TypeId} {pos : String} {after : Array Edge} {gd : Option (Nat × Bool)}
theorem qcall {f : Nat} {ι : Type} {avf : ι → List AV} {obf : ι → List Ob} {pre : ι → Prop} {F : ι → AV × List Ob} {xs : List Operand} {ats : Array TypeId} {d : Nat} (hF : Fe P f avf obf pre F) (x : ι) (vs : List Nat)
    (ha : Ars tm ob (kf ob.length []) vs xs (avf x)) (hx : pre x) {t : Ty} {y : t.den} (hFx : F x = (.c t y, [])) (hox : obf x = [])
    (hw : Wn ops ⟨some d, .call { callee := .value (.func f), args := xs.toArray, argTypes := ats }, ty, pos, after, gd⟩ tm) (hf : t.flat = true) (hN : d < X.N)
    (hr : QV P X ops Q rest ((d, .c t y) :: tm) ob) : QV P X ops Q (⟨some d, .call { callee := .value (.func f), args := xs.toArray, argTypes := ats }, ty, pos, after, gd⟩ :: rest) tm ob :=
  qcallG hF.2 x hx vs hf hFx hox hw rfl hN (fun a w hs => ⟨_, fun w' _ => run_call hF.1, fun w' hk G hG hv Zc Gc m hvs => Ars_ok m hG hv hvs ha⟩) hr

/-- Results, in slots and in memory. -/
inductive Rr (P : Program) (tm : Tm) (ob : List Ob) : List ResultVar → List AV → Prop
  | n : Rr P tm ob [] []
  | t {t : Nat} {av : AV} {rs : List ResultVar} {as : List AV} (h : get tm t = some av) (r : Rr P tm ob rs as) : Rr P tm ob (.tmp t :: rs) (av :: as)
  | c {t k off : Nat} {ty bt : TypeId} {cells : List AV} {av : AV} {rs : List ResultVar} {as : List AV} (h : get tm t = some (.bp k off)) (ho : ob[k]? = some (.box bt cells)) (hc : cells[off]? = some av) (ht : TI P ty false 1) (r : Rr P tm ob rs as) : Rr P tm ob (.cell t ty :: rs) (av :: as)
  | g {t k off n : Nat} {ty bt : TypeId} {cells : List AV} {rs : List ResultVar} {as : List AV} (h : get tm t = some (.bp k off)) (ho : ob[k]? = some (.box bt cells)) (hn : off + n ≤ cells.length) (ht : TI P ty true n) (r : Rr P tm ob rs as) : Rr P tm ob (.cell t ty :: rs) (.agg ((cells.drop off).take n) :: as)
def resOf (tmps : Array Value) : ResultVar → Sem Value
  | .tmp t => pure (tmps.getD t undef)
  | .cell a t => do loadVar t (← asAddr (tmps.getD a undef))
theorem rr_ok {G : Gh} (hG : GOK X ob G w) (hv : ∀ t av, get tm t = some av → t < X.N ∧ VR w (okG X.Z G) G av (a.tmps.getD t undef)) {rs : List ResultVar} {as : List AV} (h : Rr P tm ob rs as) :
    ∃ vs : List Value, (rs.mapM (resOf a.tmps)).run P w = .ok vs w ∧ VRs w (okG X.Z G) G as vs := by
  induction h with
  | n => exact ⟨[], by simp, rfl⟩
  | t h r ih =>
    obtain ⟨vs, h1, h2⟩ := ih
    exact ⟨_ :: vs, by simp [List.mapM_cons, resOf, h1], _, _, rfl, (hv _ _ h).2, h2⟩
  | @c t k off ty bt cells av rs as h ho hc ht r ih =>
    obtain ⟨vs, h1, h2⟩ := ih
    obtain ⟨v, h3, h4⟩ := ldb (P := P) (X := X) (tm := tm) (dst := none) (ty := 0) (pos := "") (after := #[]) (gd := none) (x := .tmp t) h ho hc ht a w G hG (fun x av hx => rd_ok hv hx)
    have h5 := h3 w (Kp.refl _ _)
    simp only [execOp, Instr.loadAt, Sem.run_bind, eval_tmp] at h5
    have hp := (hv t _ h).2
    simp only [VR] at hp
    obtain ⟨b, f, _, hp⟩ := hp
    rw [hp] at h5
    simp only [Instr.sureAddr, Sem.run_pure, Result.andThen_ok] at h5
    refine ⟨v :: vs, ?_, _, _, rfl, h4, h2⟩
    have h6 : (loadVar ty ⟨b, off, none⟩).run P w = .ok v w := by
      revert h5
      cases (loadVar ty ⟨b, off, none⟩).run P w <;> simp [Result.andThen]
    simp [List.mapM_cons, resOf, hp, asAddr, h6, h1]
  | @g t k off n ty bt cells rs as h ho hn ht r ih =>
    obtain ⟨vs, h1, h2⟩ := ih
    obtain ⟨v, h3, h4⟩ := ldbn (P := P) (X := X) (tm := tm) (dst := none) (ty := 0) (pos := "") (after := #[]) (gd := none) (x := .tmp t) h ho ht hn a w G hG (fun x av hx => rd_ok hv hx)
    have h5 := h3 w (Kp.refl _ _)
    simp only [execOp, Instr.loadAt, Sem.run_bind, eval_tmp] at h5
    have hp := (hv t _ h).2
    simp only [VR] at hp
    obtain ⟨b, f, _, hp⟩ := hp
    rw [hp] at h5
    simp only [Instr.sureAddr, Sem.run_pure, Result.andThen_ok] at h5
    refine ⟨v :: vs, ?_, _, _, rfl, h4, h2⟩
    have h6 : (loadVar ty ⟨b, off, none⟩).run P w = .ok v w := by
      revert h5
      cases (loadVar ty ⟨b, off, none⟩).run P w <;> simp [Result.andThen]
    simp [List.mapM_cons, resOf, hp, asAddr, h6, h1]
def res1 (vs : List Value) : Value :=
  match vs with
  | [v] => v
  | vs => .tuple ⟨vs⟩
theorem run_results {fn : Func} {rs : List ResultVar} {vs : List Value} {tmps : Array Value} (hr : fn.results = rs.toArray) (h : (rs.mapM (resOf tmps)).run P w = .ok vs w) :
    (results fn tmps).run P w = .ok (res1 vs) w := by
  unfold results
  rw [hr]
  have e : ∀ (f : ResultVar → Sem Value), f = resOf tmps → (rs.toArray.mapM f >>= fun vs => (pure (if h : vs.size = 1 then vs[0] else .tuple vs) : Sem Value)).run P w = .ok (res1 vs) w := by
    intro f hf
    subst hf
    simp only [List.mapM_toArray, Sem.run_bind, map_eq_pure_bind, h, Result.andThen_ok, Sem.run_pure]
    match vs with
    | [] => rfl
    | [v] => rfl
    | _ :: _ :: _ => rfl
  exact e _ (by funext x; cases x <;> rfl)
def avres (as : List AV) : AV :=
  match as with
  | [a] => a
  | as => .tup as
theorem retg {fn : Func} {rs : List ResultVar} {r : AV × List Ob} {as bs : List AV} {ob' : List Ob} (ks : List Nat) (hr : fn.results = rs.toArray) (h : Rr P tm ob rs as) (hn : ks.Nodup) (hH : ∀ k, k < X.H.length → ks[k]? = some k) (ho : Wo ob (kf ob.length ks) ks ob')
    (hb : as = AV.rens (kf ob.length ks) bs) (he : r = (avres bs, ob')) : XV X .ret (bodyPost P fn (RP X r)) tm ob := fun a w hs => by
  subst he
  obtain ⟨G, hG, hv⟩ := hs.ex
  obtain ⟨vs, h1, h2⟩ := rr_ok hG hv h
  obtain ⟨hG', m⟩ := wobs hG ks hn hH ho
  rw [hb] at h2
  have h3 := VRs_mv m bs vs h2
  refine ⟨hs.d, res1 vs, run_results hr h1, res1 vs, _, rfl, hs.kp, hG', ?_⟩
  match bs, vs, h3 with
  | [], vs, h3 => simp only [VRs] at h3; subst h3; simp only [avres, res1, VR]; exact ⟨[], rfl, rfl⟩
  | [b], vs, h3 =>
    simp only [VRs] at h3
    obtain ⟨v, vs', rfl, h4, rfl⟩ := h3
    exact h4
  | b :: c :: bs, vs, h3 =>
    have h3' := h3
    simp only [VRs] at h3'
    obtain ⟨v, vs', rfl, _, u, us, rfl, _⟩ := h3'
    simp only [avres, res1, VR]
    exact ⟨_, rfl, h3⟩
theorem retgn {fn : Func} {r : AV × List Ob} (h : XV X .ret (bodyPost P fn (RP X r)) tm ob) : XV X .normal (bodyPost P fn (RP X r)) tm ob := fun a w hs => h a w hs
end
end Go.Proofs.YtifpekpmnlcmoaaE
