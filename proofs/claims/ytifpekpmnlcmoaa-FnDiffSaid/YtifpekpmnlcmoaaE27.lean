/- The engine, part 27: short forms for printed walks. -/
import Derived.Test.YtifpekpmnlcmoaaE26
set_option linter.unusedVariables false
set_option linter.unusedSimpArgs false
namespace Go.Proofs.YtifpekpmnlcmoaaE
open Go Go.RowKit

section
variable {P : Program} {X : Cx} {Q : Exit → Act → World → Prop} {tm tm' : Tm} {ob ob' : List Ob} {M : List Nat} {ops : Array Oper} {rest : List Oper} {d : Nat} {av : AV} {i : Op} {ty : TypeId} {pos : String} {after : Array Edge} {gd : Option (Nat × Bool)}
theorem o1 (h : Val P X tm ob ⟨some d, i, ty, pos, after, none⟩ av) (hr : OV P X ops Q rest ((d, av) :: tm) ob) (hN : Nat.blt d X.N = true := by rfl) : OV P X ops Q (⟨some d, i, ty, pos, after, none⟩ :: rest) tm ob := o (.inl rfl) (L hN) h rfl hr
theorem og {j t : Nat} {want : Bool} (h : Val P X tm ob ⟨some d, i, ty, pos, after, some (j, want)⟩ av) (hr : OV P X ops Q rest ((d, av) :: tm) ob) (hj : (ops[j]?).bind (·.dst) = some t := by rfl) (ht : get tm t = some (.c .b want) := by rfl) (hN : Nat.blt d X.N = true := by rfl) :
    OV P X ops Q (⟨some d, i, ty, pos, after, some (j, want)⟩ :: rest) tm ob := o (.inr ⟨j, want, t, rfl, hj, ht⟩) (L hN) h rfl hr
theorem e1 (h : Sto P X tm ob M ob' ⟨some d, i, ty, pos, after, none⟩ av) (hr : OV P X ops Q rest ((d, av) :: tm) ob') (hN : Nat.blt d X.N = true := by rfl) : OV P X ops Q (⟨some d, i, ty, pos, after, none⟩ :: rest) tm ob := osto (.inl rfl) (L hN) rfl h hr
theorem eg {j t : Nat} {want : Bool} (h : Sto P X tm ob M ob' ⟨some d, i, ty, pos, after, some (j, want)⟩ av) (hr : OV P X ops Q rest ((d, av) :: tm) ob') (hj : (ops[j]?).bind (·.dst) = some t := by rfl) (ht : get tm t = some (.c .b want) := by rfl) (hN : Nat.blt d X.N = true := by rfl) :
    OV P X ops Q (⟨some d, i, ty, pos, after, some (j, want)⟩ :: rest) tm ob := osto (.inr ⟨j, want, t, rfl, hj, ht⟩) (L hN) rfl h hr
theorem e0 (h : Sto0 P X tm ob M ob' ⟨none, i, ty, pos, after, none⟩) (hr : OV P X ops Q rest tm ob') : OV P X ops Q (⟨none, i, ty, pos, after, none⟩ :: rest) tm ob := osto0 (.inl rfl) rfl h hr
theorem e9 (h : Sto1 P X tm ob M ob' ⟨none, i, ty, pos, after, none⟩) (hr : OV P X ops Q rest tm ob') : OV P X ops Q (⟨none, i, ty, pos, after, none⟩ :: rest) tm ob := osto1 (.inl rfl) rfl h hr

variable {R : Act → World → Prop} {fuel : Nat} {listed : Array Bool}
theorem v1 (n : Nat) (h : ∀ X' : Cx, Val P X' tm (kill M 0 ob) ⟨some d, i, ty, pos, after, none⟩ av) (hr : HV P X ops R M fuel (listed.setIfInBounds n true) ((d, av) :: tm) ob) (hi : ops[n]? = some ⟨some d, i, ty, pos, after, none⟩ := by rfl) (hc : takeB ops listed n = true := by kernel_rfl) (hN : Nat.blt d X.N = true := by rfl) :
    HV P X ops R M (fuel + 1) listed tm ob := hval n hi hc (.inl rfl) (L hN) h rfl hr
theorem vg (n : Nat) {j t : Nat} {want : Bool} (h : ∀ X' : Cx, Val P X' tm (kill M 0 ob) ⟨some d, i, ty, pos, after, some (j, want)⟩ av) (hr : HV P X ops R M fuel (listed.setIfInBounds n true) ((d, av) :: tm) ob) (hi : ops[n]? = some ⟨some d, i, ty, pos, after, some (j, want)⟩ := by rfl) (hc : takeB ops listed n = true := by kernel_rfl)
    (hj : (ops[j]?).bind (·.dst) = some t := by rfl) (ht : get tm t = some (.c .b want) := by rfl) (hN : Nat.blt d X.N = true := by rfl) : HV P X ops R M (fuel + 1) listed tm ob := hval n hi hc (.inr ⟨j, want, t, rfl, hj, ht⟩) (L hN) h rfl hr
theorem x1 {n : Nat} {M0 : List Nat} (M' : List Nat) (h : Sto P X tm ob M0 ob' ⟨some d, i, ty, pos, after, none⟩ av) (hr : HV P X ops R M' fuel (listed.setIfInBounds n true) ((d, av) :: tm) ob') (hi : ops[n]? = some ⟨some d, i, ty, pos, after, none⟩ := by rfl) (hM : effB M M0 M' ob.length = true := by rfl) (hN : Nat.blt d X.N = true := by rfl) :
    EV P X ops R M fuel listed tm ob n := hsto M' hi (.inl rfl) (L hN) rfl h hM hr
theorem xg {n : Nat} {M0 : List Nat} {j t : Nat} {want : Bool} (M' : List Nat) (h : Sto P X tm ob M0 ob' ⟨some d, i, ty, pos, after, some (j, want)⟩ av) (hr : HV P X ops R M' fuel (listed.setIfInBounds n true) ((d, av) :: tm) ob') (hi : ops[n]? = some ⟨some d, i, ty, pos, after, some (j, want)⟩ := by rfl) (hM : effB M M0 M' ob.length = true := by rfl)
    (hj : (ops[j]?).bind (·.dst) = some t := by rfl) (ht : get tm t = some (.c .b want) := by rfl) (hN : Nat.blt d X.N = true := by rfl) : EV P X ops R M fuel listed tm ob n := hsto M' hi (.inr ⟨j, want, t, rfl, hj, ht⟩) (L hN) rfl h hM hr
theorem x0 {n : Nat} {M0 : List Nat} (M' : List Nat) (h : Sto0 P X tm ob M0 ob' ⟨none, i, ty, pos, after, none⟩) (hr : HV P X ops R M' fuel (listed.setIfInBounds n true) tm ob') (hi : ops[n]? = some ⟨none, i, ty, pos, after, none⟩ := by rfl) (hM : effB M M0 M' ob.length = true := by rfl) :
    EV P X ops R M fuel listed tm ob n := hsto0 M' hi (.inl rfl) rfl h hM hr
theorem x9 {n : Nat} {M0 : List Nat} (M' : List Nat) (h : Sto1 P X tm ob M0 ob' ⟨none, i, ty, pos, after, none⟩) (hr : HV P X ops R M' fuel (listed.setIfInBounds n true) tm ob') (hi : ops[n]? = some ⟨none, i, ty, pos, after, none⟩ := by rfl) (hM : effB M M0 M' ob.length = true := by rfl) :
    EV P X ops R M fuel listed tm ob n := hsto1 M' hi (.inl rfl) rfl h hM hr
theorem xv {n : Nat} (h : Val P X tm ob ⟨some d, i, ty, pos, after, none⟩ av) (hr : HV P X ops R M fuel (listed.setIfInBounds n true) ((d, av) :: tm) ob) (hi : ops[n]? = some ⟨some d, i, ty, pos, after, none⟩ := by rfl) (hN : Nat.blt d X.N = true := by rfl) :
    EV P X ops R M fuel listed tm ob n := hvalx hi (.inl rfl) (L hN) rfl h hr
theorem xvg {n : Nat} {j t : Nat} {want : Bool} (h : Val P X tm ob ⟨some d, i, ty, pos, after, some (j, want)⟩ av) (hr : HV P X ops R M fuel (listed.setIfInBounds n true) ((d, av) :: tm) ob) (hi : ops[n]? = some ⟨some d, i, ty, pos, after, some (j, want)⟩ := by rfl)
    (hj : (ops[j]?).bind (·.dst) = some t := by rfl) (ht : get tm t = some (.c .b want) := by rfl) (hN : Nat.blt d X.N = true := by rfl) : EV P X ops R M fuel listed tm ob n := hvalx hi (.inr ⟨j, want, t, rfl, hj, ht⟩) (L hN) rfl h hr
theorem hn1 {n : Nat} (h : EV P X ops R M fuel listed tm ob n) (hr : Region.ready .any ops listed = [n] := by kernel_rfl) : HV P X ops R M (fuel + 1) listed tm ob := hone hr h
theorem hn2 {n m : Nat} (h : EV P X ops R M fuel listed tm ob n) (h2 : EV P X ops R M fuel listed tm ob m) (hr : Region.ready .any ops listed = [n, m] := by kernel_rfl) : HV P X ops R M (fuel + 1) listed tm ob := htwo hr h h2
theorem hn3 {n m l : Nat} (h : EV P X ops R M fuel listed tm ob n) (h2 : EV P X ops R M fuel listed tm ob m) (h3 : EV P X ops R M fuel listed tm ob l) (hr : Region.ready .any ops listed = [n, m, l] := by kernel_rfl) : HV P X ops R M (fuel + 1) listed tm ob := hthree hr h h2 h3
theorem h9 (h : XV X .normal Q tm ob) (hr : Region.ready .any ops listed = [] := by kernel_rfl) : HV P X ops (fun a w => Q .normal a w) M fuel listed tm ob := hnil hr h
theorem vs (n : Nat) {j t : Nat} {want x : Bool} (hx : (x == want) = false) (hr : HV P X ops R M fuel (listed.setIfInBounds n true) ((d, .tup []) :: tm) ob) (hi : ops[n]? = some ⟨some d, i, ty, pos, after, some (j, want)⟩ := by rfl) (hc : takeB ops listed n = true := by kernel_rfl)
    (hj : (ops[j]?).bind (·.dst) = some t := by rfl) (ht : get tm t = some (.c .b x) := by rfl) (hN : Nat.blt d X.N = true := by rfl) : HV P X ops R M (fuel + 1) listed tm ob := hskip n hi hc rfl hj ht hx rfl (L hN) hr
theorem vu (n : Nat) {j t : Nat} {want : Bool} (hr : HV P X ops R M fuel (listed.setIfInBounds n true) ((d, .tup []) :: tm) ob) (hi : ops[n]? = some ⟨some d, i, ty, pos, after, some (j, want)⟩ := by rfl) (hc : takeB ops listed n = true := by kernel_rfl)
    (hj : (ops[j]?).bind (·.dst) = some t := by rfl) (ht : get tm t = some (.tup []) := by rfl) (hN : Nat.blt d X.N = true := by rfl) : HV P X ops R M (fuel + 1) listed tm ob := hskipu n hi hc rfl hj ht rfl (L hN) hr
theorem os {j t : Nat} {want x : Bool} (hx : (x == want) = false) (hr : OV P X ops Q rest ((d, .tup []) :: tm) ob) (hj : (ops[j]?).bind (·.dst) = some t := by rfl) (ht : get tm t = some (.c .b x) := by rfl) (hN : Nat.blt d X.N = true := by rfl) :
    OV P X ops Q (⟨some d, i, ty, pos, after, some (j, want)⟩ :: rest) tm ob := oskip rfl hj ht hx rfl (L hN) hr
theorem ou {j t : Nat} {want : Bool} (hr : OV P X ops Q rest ((d, .tup []) :: tm) ob) (hj : (ops[j]?).bind (·.dst) = some t := by rfl) (ht : get tm t = some (.tup []) := by rfl) (hN : Nat.blt d X.N = true := by rfl) :
    OV P X ops Q (⟨some d, i, ty, pos, after, some (j, want)⟩ :: rest) tm ob := oskipu rfl hj ht rfl (L hN) hr
/-- An operation that yields nothing, whose guard says no. -/
theorem skip_wn {o : Oper} {j t : Nat} {want x : Bool} (hg : o.guard = some (j, want)) (hj : (ops[j]?).bind (·.dst) = some t) (ht : get tm t = some (.c .b x)) (hx : (x == want) = false) {a : Act} {w : World} (hs : Sim X tm ob a w) : Region.wanted o (yielded ops a.tmps) = false := by
  obtain ⟨G, hG, hv⟩ := hs.ex
  obtain ⟨hn, hrr⟩ := hv t _ ht
  simp only [VR, RS] at hrr
  have hlt : t < a.tmps.size := by rw [hs.n]; exact hn
  have h5 : a.tmps[t]? = some (.bool x) := by
    rw [Array.getD_eq_getD_getElem?, Array.getElem?_eq_getElem hlt] at hrr
    rw [Array.getElem?_eq_getElem hlt]
    simpa using hrr
  simp only [Region.wanted, hg, yielded, hj, Option.bind_some, h5]
  cases x <;> cases want <;> first | rfl | cases hx
/-- nil or not. -/
theorem heqn {n : Nat} {x : Operand} {xt yt e : TypeId} {m : Nat} {ts : Tys} {xs : List ts.den} (hx : rd tm x = some (.c (.l ts) xs)) (ht : linfo P xt = some (e, m)) (hr : ∀ z : Bool, (z = true → xs = []) → HV P X ops R M fuel (listed.setIfInBounds n true) ((d, .c .b z) :: tm) ob)
    (hi : ops[n]? = some ⟨some d, .binOp .eql xt x (.const (.slice none 0 0)) yt, ty, pos, after, none⟩ := by rfl) (hN : Nat.blt d X.N = true := by rfl) : EV P X ops R M fuel listed tm ob n := fun a w G hs => by
  have h := rd_ok (X := X) hs.hv hx
  simp only [VR, RS] at h
  obtain ⟨A, c, h, hc, hm, hrow⟩ := h
  have hz : A.isNone = true → xs = [] := fun hA => by
    rcases Classical.em (xs = []) with h | h
    · exact h
    · obtain ⟨b, p, rfl, _⟩ := hrow h
      cases hA
  refine wpOp_of hi (wn_ok (.inl rfl) (sg_sim hs)) ?_
  unfold Oper.wp
  have hrun : (execOp a.eval ⟨some d, .binOp .eql xt x (.const (.slice none 0 0)) yt, ty, pos, after, none⟩).run P w = .ok (.value (.bool A.isNone)) w :=
    run_bin (v := .slice none 0 0) h rfl guard_sl (by simp only [binOp, Sem.run_bind, run_eq_nil (linfo_u ht).1, Result.andThen_ok, Sem.run_pure])
  rw [hrun]
  simp only [Oper.upon]
  exact ⟨Kp.refl _ _, hr _ hz _ _ _ (sg_put hs (L hN) vrb)⟩

/-- Calls. -/
theorem cl {f : Nat} {ι κ : Type} {avf : ι → List AV} {obf : ι → List Ob} {pre : ι → Prop} {post : ι → κ → Prop} {F : ι → κ → AV × List Ob} {xs : List Operand} {ats : Array TypeId} (hF : Fr P f avf obf pre post F) (x : ι) (ks vs : List Nat)
    (ha : Ars tm ob (kf ob.length ks) vs xs (avf x)) (hx : pre x) (hkn : ks.Nodup) (hap : ∀ k ∈ ks, k ∉ vs) (ho : Wo ob (kf ob.length ks) ks (obf x)) (hlen : ∀ y, ks.length ≤ (F x y).2.length) (hfree : vs = [] ∨ ∀ y, ((F x y).1.free = true ∧ ∀ o ∈ (F x y).2, o.free = true))
    (hr : ∀ y, post x y → OV P X ops Q rest ((d, (F x y).1.ren (gf ob.length ks)) :: tm) (newob ob ks (F x y).2)) (hw : Wn ops ⟨some d, .call { callee := .value (.func f), args := xs.toArray, argTypes := ats }, ty, pos, after, gd⟩ tm) (hN : Nat.blt d X.N = true := by rfl) :
    OV P X ops Q (⟨some d, .call { callee := .value (.func f), args := xs.toArray, argTypes := ats }, ty, pos, after, gd⟩ :: rest) tm ob := ocally hF x ks vs ha hx hw hkn hap ho hlen hfree (L hN) hr
theorem fz {vs : List Nat} {κ : Type} {F : κ → AV × List Ob} (h : vs = []) : vs = [] ∨ ∀ y, ((F y).1.free = true ∧ ∀ o ∈ (F y).2, o.free = true) := .inl h
/-- Calls whose contract is exact. -/
theorem ce {f : Nat} {ι : Type} {avf : ι → List AV} {obf : ι → List Ob} {pre : ι → Prop} {F : ι → AV × List Ob} {xs : List Operand} {ats : Array TypeId} (hF : Fe P f avf obf pre F) (x : ι) (ks vs : List Nat)
    (ha : Ars tm ob (kf ob.length ks) vs xs (avf x)) (hx : pre x) (hkn : ks.Nodup) (hap : ∀ k ∈ ks, k ∉ vs) (ho : Wo ob (kf ob.length ks) ks (obf x)) (hlen : Nat.ble ks.length (F x).2.length = true) (hfree : vs = [] ∨ ((F x).1.free = true ∧ ∀ o ∈ (F x).2, o.free = true))
    (hr : OV P X ops Q rest ((d, (F x).1.ren (gf ob.length ks)) :: tm) (newob ob ks (F x).2)) (hw : Wn ops ⟨some d, .call { callee := .value (.func f), args := xs.toArray, argTypes := ats }, ty, pos, after, gd⟩ tm) (hN : Nat.blt d X.N = true := by rfl) :
    OV P X ops Q (⟨some d, .call { callee := .value (.func f), args := xs.toArray, argTypes := ats }, ty, pos, after, gd⟩ :: rest) tm ob := ocall hF x ks vs ha hx hw hkn hap ho (Le hlen) hfree (L hN) hr
theorem xce {n f : Nat} {ι : Type} {avf : ι → List AV} {obf : ι → List Ob} {pre : ι → Prop} {F : ι → AV × List Ob} {xs : List Operand} {ats : Array TypeId} (hF : Fe P f avf obf pre F) (x : ι) (ks vs M' : List Nat)
    (ha : Ars tm ob (kf ob.length ks) vs xs (avf x)) (hx : pre x) (hkn : ks.Nodup) (hap : ∀ k ∈ ks, k ∉ vs) (ho : Wo ob (kf ob.length ks) ks (obf x)) (hlen : Nat.ble ks.length (F x).2.length = true) (hfree : vs = [] ∨ ((F x).1.free = true ∧ ∀ o ∈ (F x).2, o.free = true))
    (hr : HV P X ops R M' fuel (listed.setIfInBounds n true) ((d, (F x).1.ren (gf ob.length ks)) :: tm) (newob ob ks (F x).2)) (hw : Wn ops ⟨some d, .call { callee := .value (.func f), args := xs.toArray, argTypes := ats }, ty, pos, after, gd⟩ tm)
    (hi : ops[n]? = some ⟨some d, .call { callee := .value (.func f), args := xs.toArray, argTypes := ats }, ty, pos, after, gd⟩ := by rfl) (hM : effB M ks M' ob.length = true := by rfl) (hN : Nat.blt d X.N = true := by rfl) : EV P X ops R M fuel listed tm ob n :=
  hcally (fe_fr hF) x ks vs M' hi ha hx hw hkn hap ho (fun _ => Le hlen) (hfree.imp id (fun h _ => h)) (L hN) hM (fun _ _ => hr)
theorem xcl {n f : Nat} {ι κ : Type} {avf : ι → List AV} {obf : ι → List Ob} {pre : ι → Prop} {post : ι → κ → Prop} {F : ι → κ → AV × List Ob} {xs : List Operand} {ats : Array TypeId} (hF : Fr P f avf obf pre post F) (x : ι) (ks vs M' : List Nat)
    (ha : Ars tm ob (kf ob.length ks) vs xs (avf x)) (hx : pre x) (hkn : ks.Nodup) (hap : ∀ k ∈ ks, k ∉ vs) (ho : Wo ob (kf ob.length ks) ks (obf x)) (hlen : ∀ y, ks.length ≤ (F x y).2.length) (hfree : vs = [] ∨ ∀ y, ((F x y).1.free = true ∧ ∀ o ∈ (F x y).2, o.free = true))
    (hr : ∀ y, post x y → HV P X ops R M' fuel (listed.setIfInBounds n true) ((d, (F x y).1.ren (gf ob.length ks)) :: tm) (newob ob ks (F x y).2)) (hw : Wn ops ⟨some d, .call { callee := .value (.func f), args := xs.toArray, argTypes := ats }, ty, pos, after, gd⟩ tm)
    (hi : ops[n]? = some ⟨some d, .call { callee := .value (.func f), args := xs.toArray, argTypes := ats }, ty, pos, after, gd⟩ := by rfl) (hM : effB M ks M' ob.length = true := by rfl) (hN : Nat.blt d X.N = true := by rfl) : EV P X ops R M fuel listed tm ob n :=
  hcally hF x ks vs M' hi ha hx hw hkn hap ho hlen hfree (L hN) hM hr
theorem wgd {o : Oper} {j t : Nat} {want : Bool} (hg : o.guard = some (j, want)) (hj : (ops[j]?).bind (·.dst) = some t) (ht : get tm t = some (.c .b want)) : Wn ops o tm := .inr ⟨j, want, t, hg, hj, ht⟩

/-- Loops and meeting points, the other slots kept. -/
theorem clk {body : Code} {ι : Type} {us : Tm} (hu : Wi tm us) (ms : ι → Tm → Tm) (obf : ι → List Ob → List Ob) (inv : ι → Prop) (m : ι → Nat) (x0 : ι) (hi : inv x0) (hw : Wk X tm ob (ms x0 us) (obf x0 ob))
    (hr : ∀ x, inv x → CV P X body (LQ X (fun y => ms y us) (fun y => obf y ob) inv m x Q) (ms x us) (obf x ob)) : CV P X (.loop body) Q tm ob := cloop _ _ inv m x0 hi hw hr
theorem cmk {x y : Code} {ι : Type} {us : Tm} (hu : Wi tm us) (ms : ι → Tm → Tm) (obf : ι → List Ob → List Ob) (inv : ι → Prop) (h : CV P X x (MQ X (fun z => ms z us) (fun z => obf z ob) inv Q) tm ob) (h2 : ∀ z, inv z → CV P X y Q (ms z us) (obf z ob)) : CV P X (.seq x y) Q tm ob := cmid _ _ inv h h2
theorem hk {H : List Value} {n : Nat} {ks : List Nat} (hH : H.length = n) (h : (List.range n).all (fun k => ks[k]? == some k) = true) : ∀ k, k < H.length → ks[k]? = some k := fun k hk => by
  rw [hH] at hk
  simpa using List.all_eq_true.1 h k (List.mem_range.2 hk)
theorem nd {ks : List Nat} (h : ks.eraseDups.length = ks.length ∧ decide ks.Nodup = true) : ks.Nodup := of_decide_eq_true h.2

/-- Results. -/
theorem cq {t : Ty} {x y : t.den} {f : Nat → Nat} (h : x = y) : AV.c t x = AV.ren f (AV.c t y) := by subst h; rfl
theorem ciq {k : IntKind} {x y : Int} {f : Nat → Nat} (h : x = y) : AV.c (.i k) x = AV.ren f (AV.c (.i k) y) := by subst h; rfl
theorem lc {b c : AV} {bs cs : List AV} (h : b = c) (hs : bs = cs) : b :: bs = c :: cs := by subst h hs; rfl
theorem aq {bs cs : List AV} {f : Nat → Nat} (h : bs = AV.rens f cs) : AV.agg bs = AV.ren f (AV.agg cs) := by subst h; rfl
theorem bq {t : TypeId} {bs cs : List AV} {f : Nat → Nat} (h : bs = AV.rens f cs) : Ob.box t bs = Ob.ren f (Ob.box t cs) := by subst h; rfl
theorem arq {dp : Bool} {e : TypeId} {ts : Tys} {xs ys : List ts.den} {f : Nat → Nat} (h : xs = ys) : Ob.arr dp e ts xs = Ob.ren f (Ob.arr dp e ts ys) := by subst h; rfl
theorem rety2 {fn : Func} {κ : Type} {post : κ → Prop} {F : κ → AV × List Ob} {e : Exit} (y : κ) (h : XV X e (bodyPost P fn (RP X (F y))) tm ob) (hy : post y) : XV X e (bodyPost P fn (RPy X post F)) tm ob := rety y hy h
/-- A row in a box, from here on data; nil in a box as an object. -/
theorem wnob {j off : Nat} {bt : TypeId} {cells : List AV} (dp : Bool) (e : TypeId) (ts : Tys) (hj : ob[j]? = some (.box bt cells)) (hc : cells[off]? = some .nl) : Wk X tm ob tm (ob.set j (.box bt (cells.set off (.own ob.length))) ++ [.arr dp e ts []]) := fun a w hs => by
  obtain ⟨G, hG, hv⟩ := hs.ex
  have hS : St X (ob ++ [.arr dp e ts []]) G (G ++ [(.slice none 0 0, [])]) [] w w := by
    have hor : OR w (okG X.Z (G ++ [(.slice none 0 0, [])])) (G ++ [(.slice none 0 0, [])]) (.arr dp e ts []) (.slice none 0 0, []) := by
      cases dp with
      | false => simp only [OR]; exact ⟨[], ⟨by simp, .inl ⟨rfl, rfl⟩⟩, fun j x h => by simp at h, rfl⟩
      | true => simp only [OR]; exact ⟨[], [], ⟨by simp, .inl ⟨rfl, rfl⟩⟩, rfl, fun j x f h => by simp at h, rfl⟩
    obtain ⟨g1, _, _⟩ := gok_new hG hs.kp.size (g := (.slice none 0 0, [])) (o := .arr dp e ts []) (Kp.refl [] w) List.nodup_nil (by simp) hor
    exact st_new (Kp.refl _ _) g1 (by simp)
  have hs2 := sg_st ⟨hs.n, hs.d, hs.kp, hG, hv⟩ hS
  have hjl : j < ob.length := (List.getElem?_eq_some_iff.1 hj).1
  have hoj : (ob ++ [.arr dp e ts []])[j]? = some (.box bt cells) := by rw [List.getElem?_append_left hjl]; exact hj
  have hgl : j < (G ++ [((.slice none 0 0 : Value), ([] : List Nat))]).length := by simp [hG.len]; omega
  have hgj : (G ++ [((.slice none 0 0 : Value), ([] : List Nat))])[j]? = some ((G ++ [((.slice none 0 0 : Value), ([] : List Nat))])[j].1, (G ++ [((.slice none 0 0 : Value), ([] : List Nat))])[j].2) := List.getElem?_eq_getElem hgl
  have hor := hs2.gok.ob j _ _ hoj hgj
  have hset : (G ++ [((.slice none 0 0 : Value), ([] : List Nat))]).set j ((G ++ [((.slice none 0 0 : Value), ([] : List Nat))])[j].1, (G ++ [((.slice none 0 0 : Value), ([] : List Nat))])[j].2) = G ++ [((.slice none 0 0 : Value), ([] : List Nat))] := by
    apply List.ext_getElem?
    intro i
    by_cases hij : i = j
    · subst hij; rw [List.getElem?_set_self hgl, hgj]
    · rw [List.getElem?_set_ne (Ne.symm hij)]
  obtain ⟨q1, q2, q3⟩ := gok_set (f' := (G ++ [((.slice none 0 0 : Value), ([] : List Nat))])[j].2) (o := .box bt (cells.set off (.own ob.length))) hs2.gok hs2.kp.size hgj (Kp.refl _ w) (fun _ _ _ _ _ _ => rfl) (nodup_each hs2.gok.nodup j _ hgj) (fun b hb => ⟨(hs2.gok.lt b (fps_mem hgj hb)).1, .inl hb⟩) (by
    rw [hset]
    simp only [OR] at hor ⊢
    obtain ⟨b, vs, h1, h2, h3, h4⟩ := hor
    refine ⟨b, vs, h1, h2, ?_, h4⟩
    obtain ⟨u, hu1, hu2⟩ := VRs_get h3 hc
    simp only [VR] at hu2
    have key : ∀ (bs : List AV) (us : List Value) (i : Nat) (v : Value) (av : AV), VRs w (okG X.Z (G ++ [(.slice none 0 0, [])])) (G ++ [(.slice none 0 0, [])]) bs us → us[i]? = some v → VR w (okG X.Z (G ++ [(.slice none 0 0, [])])) (G ++ [(.slice none 0 0, [])]) av v → VRs w (okG X.Z (G ++ [(.slice none 0 0, [])])) (G ++ [(.slice none 0 0, [])]) (bs.set i av) us := by
      intro bs
      induction bs with
      | nil => intro us i v av h _ _; exact h
      | cons x bs ih =>
        intro us i v av h h1 h2
        simp only [VRs] at h
        obtain ⟨u, us', rfl, h3, h4⟩ := h
        cases i with
        | zero =>
          simp only [List.getElem?_cons_zero, Option.some.injEq] at h1
          subst h1
          exact ⟨u, us', rfl, h2, h4⟩
        | succ i => exact ⟨u, us', rfl, h3, ih us' i v av h4 (by simpa using h1) h2⟩
    exact key cells vs off _ _ h3 hu1 (by simp only [VR]; exact ⟨_, by rw [← hG.len, List.getElem?_append_right (Nat.le_refl _)]; simp; rfl, hu2⟩))
  rw [hset, List.set_append_left _ _ hjl] at q1
  exact ⟨hs2.n, hs2.d, hs2.kp, _, q1, hs2.hv⟩
end
end Go.Proofs.YtifpekpmnlcmoaaE
