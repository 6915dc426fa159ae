/- The engine, part 16: what a printed walk uses. -/
import Derived.Test.YtifpekpmnlcmoaaE15
set_option linter.unusedVariables false
set_option linter.unusedSimpArgs false
namespace Go.Proofs.YtifpekpmnlcmoaaE
open Go Go.RowKit

theorem ent {P : Program} {f : Nat} {fn : Func} {c : Code} (hf : P.funcs[f]? = some fn) (hname : (fn.name == "runtime.NumGoroutine") = false) (hb : fn.body = some c) : Ent P f := by
  intro args w
  have h1 : fn.name ≠ "runtime.NumGoroutine" := by simpa using hname
  simp [callFunc, hf, h1, hb, mark]
theorem fnE {P : Program} {f n : Nat} {ι : Type} {av : ι → List AV} {obs : ι → List Ob} {pre : ι → Prop} {F : ι → AV × List Ob} {fn : Func} {c : Code} (hf : P.funcs[f]? = some fn) (hb : fn.body = some c) (hn : fn.ntmps = n) (he : Ent P f)
    (h : ∀ x, pre x → (av x).length ≤ n ∧ ∀ (w0 : World) (S0 : List Nat) (H : List Value) (Z : List Nat), H.length = (obs x).length → CV P ⟨w0, S0, H, n, Z⟩ c (bodyPost P fn (RP ⟨w0, S0, H, n, Z⟩ (F x))) (pars 0 (av x)) (obs x)) : Fe P f av obs pre F := by
  subst hn
  refine ⟨he, fnI hf hb fun x hx => ⟨(h x hx).1, ?_⟩⟩
  rintro ⟨w0, S0, H, N, Z⟩ hN hH
  simp only at hN hH
  subst hN
  exact (h x hx).2 w0 S0 H Z hH

theorem L {a b : Nat} (h : Nat.blt a b = true) : a < b := by simpa [Nat.blt_eq] using h
theorem Le {a b : Nat} (h : Nat.ble a b = true) : a ≤ b := Nat.le_of_ble_eq_true h
theorem h0 {H : List Value} (hH : H.length = 0) {ks : List Nat} : ∀ k, k < H.length → ks[k]? = some k := fun k hk => by rw [hH] at hk; cases hk
theorem re {t : Ty} {x y : t.den} (h : x = y) : (AV.c t x, ([] : List Ob)) = (avres [AV.c t y], []) := by subst h; rfl
theorem re2 {t u : Ty} {x y : t.den} {x' y' : u.den} (h : x = y) (h' : x' = y') : (AV.tup [.c t x, .c u x'], ([] : List Ob)) = (avres [.c t y, .c u y'], []) := by subst h h'; rfl
theorem re3 {t u tv : Ty} {x y : t.den} {x' y' : u.den} {x'' y'' : tv.den} (h : x = y) (h' : x' = y') (h'' : x'' = y'') : (AV.tup [.c t x, .c u x', .c tv x''], ([] : List Ob)) = (avres [.c t y, .c u y', .c tv y''], []) := by subst h h' h''; rfl
/-- Some slots, the others forgotten. -/
inductive Wi (tm : Tm) : Tm → Prop
  | n : Wi tm []
  | c (t : Nat) {av : AV} {r : Tm} (h : get tm t = some av) (r' : Wi tm r) : Wi tm ((t, av) :: r)
theorem wi_get {tm tm' : Tm} {t : Nat} {av : AV} (h : Wi tm tm') (hg : get tm' t = some av) : get tm t = some av := by
  induction h with
  | n => simp [get] at hg
  | c t' h r' ih =>
    simp only [get] at hg
    split at hg
    · rename_i he
      simp only [Option.some.injEq] at hg
      subst hg he
      exact h
    · exact ih hg
section
variable {P : Program} {X : Cx} {Q : Exit → Act → World → Prop} {tm tm' : Tm} {ob ob' : List Ob}
theorem wsel (h : Wi tm tm') : Wk X tm ob tm' ob := fun a w hs => by
  obtain ⟨G, hG, hv⟩ := hs.ex
  exact ⟨hs.n, hs.d, hs.kp, G, hG, fun t av ht => hv t av (wi_get h ht)⟩
theorem wnl {t : Nat} (ts : Tys) (ht : get tm t = some .nl) : Wk X tm ob ((t, .c (.l ts) []) :: tm) ob := fun a w hs => by
  obtain ⟨G, hG, hv⟩ := hs.ex
  refine ⟨hs.n, hs.d, hs.kp, G, hG, fun t' av' h => ?_⟩
  simp only [get] at h
  split at h
  · rename_i he
    simp only [Option.some.injEq] at h
    subst h he
    refine ⟨(hv _ _ ht).1, ?_⟩
    have h2 := (hv _ _ ht).2
    simp only [VR] at h2
    rw [h2]
    simp only [VR, RS]
    exact ⟨none, 0, rfl, Nat.le_refl _, by omega, fun h => absurd rfl h⟩
  · exact hv t' av' h
theorem ccT {t : Nat} {y z : Code} (hg : get tm t = some (.c .b true)) (h1 : CV P X y Q tm ob) : CV P X (.cond (.tmp t) y z) Q tm ob := ccond hg (fun _ => h1) (fun h => by cases h)
theorem ccF {t : Nat} {y z : Code} (hg : get tm t = some (.c .b false)) (h1 : CV P X z Q tm ob) : CV P X (.cond (.tmp t) y z) Q tm ob := ccond hg (fun h => by cases h) (fun _ => h1)
theorem ccFc {y z : Code} (h1 : CV P X z Q tm ob) : CV P X (.cond (.const (.bool false)) y z) Q tm ob := fun a w hs => wp_cond_false rfl (h1 a w hs)
theorem ccTc {y z : Code} (h1 : CV P X y Q tm ob) : CV P X (.cond (.const (.bool true)) y z) Q tm ob := fun a w hs => wp_cond_true rfl (h1 a w hs)
/-- The end of a function that hands back data alone. -/
theorem retd {fn : Func} {rs : List ResultVar} {r : AV × List Ob} {as : List AV} (hr : fn.results = rs.toArray) (h : Rr P tm ob rs as) (hH : ∀ k, k < X.H.length → ([] : List Nat)[k]? = some k)
    (hb : as = AV.rens (kf ob.length []) as) (he : r = (avres as, [])) : XV X .ret (bodyPost P fn (RP X r)) tm ob := retg [] hr h List.nodup_nil hH .n hb he
/-- Behind the first of two. -/
def MQ (X : Cx) {ι : Type} (tmf : ι → Tm) (obf : ι → List Ob) (inv : ι → Prop) (Q : Exit → Act → World → Prop) : Exit → Act → World → Prop :=
  Exit.then (fun a w => ∃ y, inv y ∧ Sim X (tmf y) (obf y) a w) Q
theorem cmid {x y : Code} {ι : Type} (tmf : ι → Tm) (obf : ι → List Ob) (inv : ι → Prop) (h : CV P X x (MQ X tmf obf inv Q) tm ob) (h2 : ∀ z, inv z → CV P X y Q (tmf z) (obf z)) : CV P X (.seq x y) Q tm ob := fun a w hs => by
  refine wp_seq (wp_mono (h a w hs) fun e a' w' hq => ?_)
  cases e with
  | normal =>
    obtain ⟨z, h3, h4⟩ := hq
    exact h2 z h3 a' w' h4
  | exit id => exact hq
  | goto l => exact hq
  | ret => exact hq
  | panic ch => exact hq
  | outgrown => exact hq
theorem xmq {ι : Type} {tmf : ι → Tm} {obf : ι → List Ob} {inv : ι → Prop} (y : ι) (hi : inv y) (hw : Wk X tm ob (tmf y) (obf y)) : XV X .normal (MQ X tmf obf inv Q) tm ob := fun a w hs => ⟨y, hi, hw a w hs⟩
theorem xme {ι : Type} {tmf : ι → Tm} {obf : ι → List Ob} {inv : ι → Prop} {i : Nat} (h : XV X (.exit i) Q tm ob) : XV X (.exit i) (MQ X tmf obf inv Q) tm ob := fun a w hs => h a w hs
theorem xmr {ι : Type} {tmf : ι → Tm} {obf : ι → List Ob} {inv : ι → Prop} (h : XV X .ret Q tm ob) : XV X .ret (MQ X tmf obf inv Q) tm ob := fun a w hs => h a w hs
theorem wp_then {o : Oper} {a : Act} {w : World} {S : Act → World → Prop} {K K' : Act → World → Prop} (h : ∀ a w, K a w → K' a w) (hh : o.wp P a w K (Exit.then S Q)) : o.wp P a w K' Q := by
  unfold Oper.wp at *
  generalize (execOp a.eval o).run P w = r at *
  cases r with
  | ok n w' =>
    cases n <;> simp only [Oper.upon] at hh ⊢ <;>
      first
        | exact h _ _ hh
        | exact Calls.mono hh (fun e w'' he => by cases e <;> first | exact h _ _ he | exact he)
        | exact Rows.mono hh (fun _ _ he => h _ _ he)
  | halt x w' => cases x <;> simp only [Oper.upon] at hh ⊢ <;> exact hh
theorem wpList_app {ops : Array Oper} {S : Act → World → Prop} {l2 : List Oper} (h2 : ∀ a w, S a w → wpList P ops Q l2 a w) : ∀ (l1 : List Oper) (a : Act) (w : World), wpList P ops (Exit.then S Q) l1 a w → wpList P ops Q (l1 ++ l2) a w
  | [], a, w, h => h2 a w h
  | o :: l1, a, w, h => by
    simp only [List.cons_append, wpList] at h ⊢
    split
    · rename_i hw
      rw [if_pos hw] at h
      exact h.imp (wp_then (fun a w => wpList_app h2 l1 a w)) id
    · rename_i hw
      rw [if_neg hw] at h
      exact wpList_app h2 l1 _ _ h
/-- Some operations, then the rest of the region. -/
theorem omid {ops : Array Oper} {l : List Oper} (n : Nat) (h1 : OV P X ops (Exit.then (Sim X tm' ob') Q) (l.take n) tm ob) (h2 : OV P X ops Q (l.drop n) tm' ob') : OV P X ops Q l tm ob := fun a w hs => by
  have := wpList_app (fun a w h => h2 a w h) _ a w (h1 a w hs)
  rwa [List.take_append_drop] at this
theorem xmo (hw : Wk X tm ob tm' ob') : XV X .normal (Exit.then (Sim X tm' ob') Q) tm ob := fun a w hs => hw a w hs
/-- .. in a region that draws its order. -/
theorem wpQuiet_app {ops : Array Oper} {C : World → Prop} {K K' : Act → Prop} {l2 : List Oper} (h2 : ∀ a, K a → wpQuiet P ops C K' l2 a) : ∀ (l1 : List Oper) (a : Act), wpQuiet P ops C K l1 a → wpQuiet P ops C K' (l1 ++ l2) a
  | [], a, h => h2 a h
  | o :: l1, a, h => by
    simp only [List.cons_append, wpQuiet] at h ⊢
    split
    · rename_i hw
      rw [if_pos hw] at h
      exact Oper.quiet_mono (fun a => wpQuiet_app h2 l1 a) h
    · rename_i hw
      rw [if_neg hw] at h
      exact wpQuiet_app h2 l1 _ h
theorem qmid {ops : Array Oper} {l : List Oper} (n : Nat) (h1 : QV P X ops (fun e a w => e = .normal ∧ Sim X tm' ob' a w) (l.take n) tm ob) (h2 : QV P X ops Q (l.drop n) tm' ob') : QV P X ops Q l tm ob := fun a w hs => by
  have := wpQuiet_app (P := P) (ops := ops) (C := Kp [] w) (K' := fun a' => ∀ w', Kp [] w w' → Q .normal a' w') (fun a' h => h2 a' w (h w (Kp.refl [] w)).2) _ a (h1 a w hs)
  rwa [List.take_append_drop] at this
theorem xmqo (hw : Wk X tm ob tm' ob') : XV X .normal (fun e a w => e = .normal ∧ Sim X tm' ob' a w) tm ob := fun a w hs => ⟨rfl, hw a w hs⟩
end
end Go.Proofs.YtifpekpmnlcmoaaE
