/- The engine, part 21: contracts that leave open which of some things is returned; weaker states that keep the objects. -/
import Derived.Test.YtifpekpmnlcmoaaE19
set_option linter.unusedVariables false
set_option linter.unusedSimpArgs false
namespace Go.Proofs.YtifpekpmnlcmoaaE
open Go Go.RowKit

/-- A contract: for some y, what F says of y is returned. -/
def Fy (P : Program) (f : Nat) {ι κ : Type} (av : ι → List AV) (ob : ι → List Ob) (pre : ι → Prop) (post : ι → κ → Prop) (F : ι → κ → AV × List Ob) : Prop :=
  ∀ x, pre x → ∀ (w : World) (G : Gh) (Z : List Nat) (vals : List Value), GOK ⟨w, fps G, G.map (·.1), 0, Z⟩ (ob x) G w → VRs w (okG Z G) G (av x) vals →
    Calls P f ⟨vals⟩ w fun e w' => ∃ y, post x y ∧ ∃ v G', e = .returned v ∧ Kp (fps G) w w' ∧ GOK ⟨w, fps G, G.map (·.1), 0, Z⟩ (F x y).2 G' w' ∧ VR w' (okG Z G') G' (F x y).1 v
def Fr (P : Program) (f : Nat) {ι κ : Type} (av : ι → List AV) (ob : ι → List Ob) (pre : ι → Prop) (post : ι → κ → Prop) (F : ι → κ → AV × List Ob) : Prop := Ent P f ∧ Fy P f av ob pre post F
/-- An ending. -/
def RPy (X : Cx) {κ : Type} (post : κ → Prop) (F : κ → AV × List Ob) (e : Ending) (w' : World) : Prop := ∃ y, post y ∧ RP X (F y) e w'

section
variable {P : Program} {X : Cx} {Q : Exit → Act → World → Prop} {tm : Tm} {ob : List Ob} {a : Act} {w : World}

theorem post_mono {fn : Func} {R R' : Ending → World → Prop} (h : ∀ e w, R e w → R' e w) {e : Exit} {a : Act} {w : World} (hb : bodyPost P fn R e a w) : bodyPost P fn R' e a w := by
  cases e with
  | normal => obtain ⟨h1, v, h2, h3⟩ := hb; exact ⟨h1, v, h2, h _ _ h3⟩
  | ret => obtain ⟨h1, v, h2, h3⟩ := hb; exact ⟨h1, v, h2, h _ _ h3⟩
  | panic c => obtain ⟨h1, h2⟩ := hb; exact ⟨h1, h _ _ h2⟩
  | outgrown => exact h _ _ hb
  | exit i => exact hb
  | goto l => exact hb

theorem fnEr {f n : Nat} {ι κ : Type} {av : ι → List AV} {obs : ι → List Ob} {pre : ι → Prop} {post : ι → κ → Prop} {F : ι → κ → AV × List Ob} {fn : Func} {c : Code} (hf : P.funcs[f]? = some fn) (hb : fn.body = some c) (hn : fn.ntmps = n) (he : Ent P f)
    (h : ∀ x, pre x → (av x).length ≤ n ∧ ∀ (w0 : World) (S0 : List Nat) (H : List Value) (Z : List Nat), H.length = (obs x).length → CV P ⟨w0, S0, H, n, Z⟩ c (bodyPost P fn (RPy ⟨w0, S0, H, n, Z⟩ (post x) (F x))) (pars 0 (av x)) (obs x)) : Fr P f av obs pre post F := by
  subst hn
  refine ⟨he, fun x hx w G Z vals hG hv => ?_⟩
  obtain ⟨hl, hc⟩ := h x hx
  have hlen := VRs_len hv
  refine (calls_of_wp hf hb (R := RPy ⟨w, fps G, G.map (·.1), fn.ntmps, Z⟩ (post x) (F x)) (hc w (fps G) (G.map (·.1)) Z (by simp [hG.len]) _ _ ?_)).mono ?_
  · refine ⟨by simp; omega, rfl, Kp.refl _ _, G, GOK_N hG, fun t a ht => ?_⟩
    obtain ⟨_, h2⟩ := pars_get _ 0 t a ht
    rw [Nat.sub_zero] at h2
    obtain ⟨v, hv1, hv2⟩ := VRs_get hv h2
    have htl : t < vals.length := (List.getElem?_eq_some_iff.1 hv1).1
    refine ⟨by show t < fn.ntmps; omega, ?_⟩
    have : (({ toList := vals } : Array Value) ++ Array.replicate (fn.ntmps - ({ toList := vals } : Array Value).size) undef).getD t undef = v := by
      rw [Array.getD_eq_getD_getElem?, Array.getElem?_append_left (by simpa using htl)]
      simp only [List.getElem?_toArray, hv1, Option.getD_some]
    rw [this]
    exact hv2
  · rintro e w' ⟨y, hy, v, G', he, hk, hg, hr⟩
    exact ⟨y, hy, v, G', he, hk, GOK_N hg, hr⟩

/-- The end: this one. -/
theorem rety {fn : Func} {κ : Type} {post : κ → Prop} {F : κ → AV × List Ob} {e : Exit} (y : κ) (hy : post y) (h : XV X e (bodyPost P fn (RP X (F y))) tm ob) : XV X e (bodyPost P fn (RPy X post F)) tm ob :=
  fun a w hs => post_mono (fun _ _ hr => ⟨y, hy, hr⟩) (h a w hs)

theorem fe_fr {f : Nat} {ι : Type} {av : ι → List AV} {obs : ι → List Ob} {pre : ι → Prop} {F : ι → AV × List Ob} (h : Fe P f av obs pre F) : Fr P f (κ := Unit) av obs pre (fun _ _ => True) (fun x _ => F x) :=
  ⟨h.1, fun x hx w G Z vals hG hv => (h.2 x hx w G Z vals hG hv).mono fun e w' hr => ⟨(), trivial, hr⟩⟩

theorem call_simy {f : Nat} {ι κ : Type} {avf : ι → List AV} {obf : ι → List Ob} {pre : ι → Prop} {post : ι → κ → Prop} {F : ι → κ → AV × List Ob} (hF : Fy P f avf obf pre post F) (x : ι) (hx : pre x) (ks vs : List Nat)
    (hs : Sim X tm ob a w) (hkn : ks.Nodup) (hap : ∀ k ∈ ks, k ∉ vs) (ho : Wo ob (kf ob.length ks) ks (obf x)) (hlen : ∀ y, ks.length ≤ (F x y).2.length) (hfree : vs = [] ∨ ∀ y, ((F x y).1.free = true ∧ ∀ o ∈ (F x y).2, o.free = true)) {vals : List Value}
    (hvals : ∀ G, GOK X ob G w → (∀ t av, get tm t = some av → t < X.N ∧ VR w (okG X.Z G) G av (a.tmps.getD t undef)) → ∀ (Zc : List Nat) (Gc : Gh), Mv w w (okG X.Z G) (okG Zc Gc) G Gc (kf ob.length ks) →
      (∀ k ∈ vs, ∀ g, G[k]? = some g → ∀ b ∈ g.2, okG Zc Gc b) → VRs w (okG Zc Gc) Gc (avf x) vals) :
    Calls P f ⟨vals⟩ w fun e w' => ∃ y, post x y ∧ ∃ v Gn, e = .returned v ∧ Sim X tm (newob ob ks (F x y).2) a w' ∧ GOK X (newob ob ks (F x y).2) Gn w' ∧
      (∀ t av, get tm t = some av → t < X.N ∧ VR w' (okG X.Z Gn) Gn av (a.tmps.getD t undef)) ∧ VR w' (okG X.Z Gn) Gn ((F x y).1.ren (gf ob.length ks)) v := by
  obtain ⟨G, hG, hv⟩ := hs.ex
  obtain ⟨h1, h2, h3, h4⟩ := call_in hG hs.kp.size hkn hap ho
  refine (hF x hx w (pickG G ks) (zc X G ks vs) vals h1 (hvals G hG hv _ _ h2 h3)).mono ?_
  rintro e w' ⟨y, hy, v, G', rfl, hk, hG', hr⟩
  obtain ⟨Gn, g1, g2, g3, g4, _, _⟩ := call_out hG hs.kp.size hkn h4 (hlen y) (hfree.imp id (fun h => h y)) hk hG' hr
  have hkG : Kp (fps G) w w' := hk.mono (fun b hb _ => pick_sub b hb)
  exact ⟨y, hy, v, Gn, rfl, sim_step0 hs hG hv hkG g1 g3 g4, g1, fun t av ht => ⟨(hv t av ht).1, VR_mv' (mv_step hkG g3 g4) (hv t av ht).2⟩, g2⟩

variable {ops : Array Oper} {rest : List Oper} {dst : Option Nat} {ty : TypeId} {pos : String} {after : Array Edge} {gd : Option (Nat × Bool)}
theorem ocally {f : Nat} {ι κ : Type} {avf : ι → List AV} {obf : ι → List Ob} {pre : ι → Prop} {post : ι → κ → Prop} {F : ι → κ → AV × List Ob} {xs : List Operand} {ats : Array TypeId} {d : Nat} (hF : Fr P f avf obf pre post F) (x : ι) (ks vs : List Nat)
    (ha : Ars tm ob (kf ob.length ks) vs xs (avf x)) (hx : pre x)
    (hw : Wn ops ⟨some d, .call { callee := .value (.func f), args := xs.toArray, argTypes := ats }, ty, pos, after, gd⟩ tm) (hkn : ks.Nodup) (hap : ∀ k ∈ ks, k ∉ vs) (ho : Wo ob (kf ob.length ks) ks (obf x)) (hlen : ∀ y, ks.length ≤ (F x y).2.length) (hfree : vs = [] ∨ ∀ y, ((F x y).1.free = true ∧ ∀ o ∈ (F x y).2, o.free = true))
    (hN : d < X.N)
    (hr : ∀ y, post x y → OV P X ops Q rest ((d, (F x y).1.ren (gf ob.length ks)) :: tm) (newob ob ks (F x y).2)) : OV P X ops Q (⟨some d, .call { callee := .value (.func f), args := xs.toArray, argTypes := ats }, ty, pos, after, gd⟩ :: rest) tm ob := fun a w hs => by
  refine wpList_step fun K hK => ?_
  rw [if_pos (wn_ok hw hs)]
  unfold Oper.wp
  rw [run_call hF.1, Oper.upon_enter]
  refine (call_simy hF.2 x hx ks vs hs hkn hap ho hlen hfree (fun G hG hv Zc Gc m hvs => Ars_ok m hG hv hvs ha)).mono ?_
  rintro e w' ⟨y, hy, v, Gn, rfl, g1, g2, g3, g4⟩
  refine hK _ _ (hr y hy _ _ ?_)
  exact sim_put g1 g2 g3 hN g4

/-- The objects stay. -/
theorem wsame {tm' : Tm} {ob' : List Ob} (h : Wi tm tm') (e : ob = ob') : Wk X tm ob tm' ob' := by subst e; exact wsel h
/-- Slots by number. -/
def keep (tm : Tm) : List Nat → Tm
  | [] => []
  | k :: ks => match get tm k with
    | some av => (k, av) :: keep tm ks
    | none => keep tm ks
theorem keep_wi (tm : Tm) : ∀ ks, Wi tm (keep tm ks)
  | [] => .n
  | k :: ks => by
    simp only [keep]
    split
    · rename_i av h; exact .c k h (keep_wi tm ks)
    · exact keep_wi tm ks
end
end Go.Proofs.YtifpekpmnlcmoaaE
