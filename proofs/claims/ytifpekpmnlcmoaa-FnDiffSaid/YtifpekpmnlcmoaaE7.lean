/- The engine, part 7: weaker abstract states, loops, the beginning and the end of a function, calls. -/
import Derived.Test.YtifpekpmnlcmoaaE6
import Derived.Deep.LoopGhost
set_option linter.unusedVariables false
set_option linter.unusedSimpArgs false
namespace Go.Proofs.YtifpekpmnlcmoaaE
open Go Go.RowKit

/-- Slots kept, objects renumbered. -/
inductive Wt (tm : Tm) (f : Nat → Nat) : Tm → Prop
  | n : Wt tm f []
  | c {t : Nat} {av av' : AV} {r : Tm} (h : get tm t = some av') (e : av' = av.ren f) (r' : Wt tm f r) : Wt tm f ((t, av) :: r)
inductive Wo (ob : List Ob) (f : Nat → Nat) : List Nat → List Ob → Prop
  | n : Wo ob f [] []
  | c {k : Nat} {ks : List Nat} {o o' : Ob} {r : List Ob} (h : ob[k]? = some o') (e : o' = o.ren f) (r' : Wo ob f ks r) : Wo ob f (k :: ks) (o :: r)
def kf (n : Nat) (ks : List Nat) (i : Nat) : Nat := ks.getD i n

theorem wt_get {tm : Tm} {f : Nat → Nat} {tm' : Tm} {t : Nat} {av : AV} (h : Wt tm f tm') (hg : get tm' t = some av) : get tm t = some (av.ren f) := by
  induction h with
  | n => simp [get] at hg
  | @c t' a a' r h e r' ih =>
    simp only [get] at hg
    split at hg
    · rename_i he
      simp only [Option.some.injEq] at hg
      subst hg he e
      exact h
    · exact ih hg
theorem wo_get {ob : List Ob} {f : Nat → Nat} {ks : List Nat} {ob' : List Ob} (h : Wo ob f ks ob') : ob'.length = ks.length ∧ ∀ (i : Nat) (o : Ob), ob'[i]? = some o → ∃ k, ks[i]? = some k ∧ ob[k]? = some (o.ren f) := by
  induction h with
  | n => exact ⟨rfl, fun i o h => by simp at h⟩
  | @c k ks o o' r h e r' ih =>
    refine ⟨by simp [ih.1], fun i o2 hi => ?_⟩
    cases i with
    | zero =>
      simp only [List.getElem?_cons_zero, Option.some.injEq] at hi
      subst hi e
      exact ⟨k, rfl, h⟩
    | succ i =>
      simp only [List.getElem?_cons_succ] at hi ⊢
      exact ih.2 i o2 hi

theorem fps_cons (g : Value × List Nat) (G : Gh) : fps (g :: G) = g.2 ++ fps G := rfl
theorem nodup_apart {G : Gh} (h : (fps G).Nodup) : ∀ (i j : Nat) (g g' : Value × List Nat), i ≠ j → G[i]? = some g → G[j]? = some g' → ∀ b ∈ g.2, b ∉ g'.2 := by
  induction G with
  | nil => intro i j g g' _ hi; simp at hi
  | cons x G ih =>
    rw [fps_cons, List.nodup_append] at h
    obtain ⟨h1, h2, h3⟩ := h
    intro i j g g' hij hi hj b hb hb'
    cases i with
    | zero =>
      cases j with
      | zero => exact hij rfl
      | succ j =>
        simp only [List.getElem?_cons_zero, Option.some.injEq] at hi
        simp only [List.getElem?_cons_succ] at hj
        subst hi
        exact h3 b hb b (fps_mem hj hb') rfl
    | succ i =>
      simp only [List.getElem?_cons_succ] at hi
      cases j with
      | zero =>
        simp only [List.getElem?_cons_zero, Option.some.injEq] at hj
        subst hj
        exact h3 b hb' b (fps_mem hi hb) rfl
      | succ j =>
        simp only [List.getElem?_cons_succ] at hj
        exact ih h2 i j g g' (by omega) hi hj b hb hb'
theorem nodup_each {G : Gh} (h : (fps G).Nodup) : ∀ (i : Nat) (g : Value × List Nat), G[i]? = some g → g.2.Nodup := by
  induction G with
  | nil => intro i g hi; simp at hi
  | cons x G ih =>
    rw [fps_cons, List.nodup_append] at h
    intro i g hi
    cases i with
    | zero =>
      simp only [List.getElem?_cons_zero, Option.some.injEq] at hi
      subst hi; exact h.1
    | succ i => exact ih h.2.1 i g (by simpa using hi)
/-- The objects picked out by number. -/
def pickG (G : Gh) (ks : List Nat) : Gh := ks.map fun k => (G[k]?).getD (undef, [])
theorem pick_nodup {G : Gh} (h : (fps G).Nodup) : ∀ {ks : List Nat}, ks.Nodup → (∀ k ∈ ks, k < G.length) → (fps (pickG G ks)).Nodup
  | [], _, _ => by simp [pickG, fps]
  | k :: ks, hn, hlt => by
    rw [List.nodup_cons] at hn
    have hk : G[k]? = some (G[k]'(hlt k List.mem_cons_self)) := List.getElem?_eq_getElem (hlt k List.mem_cons_self)
    show (fps (((G[k]?).getD (undef, [])) :: pickG G ks)).Nodup
    rw [fps_cons, List.nodup_append]
    refine ⟨by rw [hk]; exact nodup_each h k _ hk, pick_nodup h hn.2 (fun j hj => hlt j (List.mem_cons_of_mem _ hj)), ?_⟩
    intro b hb c hc he
    subst he
    obtain ⟨g, hg, hbg⟩ := List.mem_flatMap.1 hc
    obtain ⟨j, hj, rfl⟩ := List.mem_map.1 hg
    have hjl := hlt j (List.mem_cons_of_mem _ hj)
    have hj' : G[j]? = some G[j] := List.getElem?_eq_getElem hjl
    rw [hk] at hb
    rw [hj'] at hbg
    exact nodup_apart h k j _ _ (fun e => hn.1 (e ▸ hj)) hk hj' b hb hbg
theorem pick_get {G : Gh} {ks : List Nat} {i k : Nat} (hi : ks[i]? = some k) (hk : k < G.length) : (pickG G ks)[i]? = G[k]? := by
  simp [pickG, List.getElem?_map, hi, List.getElem?_eq_getElem hk]
theorem pick_sub {G : Gh} {ks : List Nat} : ∀ b ∈ fps (pickG G ks), b ∈ fps G := by
  intro b hb
  obtain ⟨g, hg, hbg⟩ := List.mem_flatMap.1 hb
  obtain ⟨j, hj, rfl⟩ := List.mem_map.1 hg
  cases hq : G[j]? with
  | none => simp [hq] at hbg
  | some g => rw [hq] at hbg; exact fps_mem hq hbg

section
variable {P : Program} {X : Cx} {Q : Exit → Act → World → Prop} {tm tm' : Tm} {ob ob' : List Ob} {a : Act} {w : World}

/-- A state is as strong as another one. -/
def Wk (X : Cx) (tm : Tm) (ob : List Ob) (tm' : Tm) (ob' : List Ob) : Prop := ∀ a w, Sim X tm ob a w → Sim X tm' ob' a w
theorem wobs {G : Gh} (hG : GOK X ob G w) (ks : List Nat) (hn : ks.Nodup) (hH : ∀ k, k < X.H.length → ks[k]? = some k) (ho : Wo ob (kf ob.length ks) ks ob') :
    GOK X ob' (pickG G ks) w ∧ Mv w w (okG X.Z G) (okG X.Z (pickG G ks)) G (pickG G ks) (kf ob.length ks) := by
  obtain ⟨hl, hget⟩ := wo_get ho
  have hlt : ∀ (i k : Nat), ks[i]? = some k → k < G.length := by
    intro i k hi
    have hil : i < ob'.length := by rw [hl]; exact (List.getElem?_eq_some_iff.1 hi).1
    obtain ⟨k', hk', hob⟩ := hget i _ (List.getElem?_eq_getElem hil)
    rw [hi] at hk'
    cases hk'
    rw [hG.len]
    exact (List.getElem?_eq_some_iff.1 hob).1
  have m : Mv w w (okG X.Z G) (okG X.Z (pickG G ks)) G (pickG G ks) (kf ob.length ks) := by
    refine ⟨Nat.le_refl _, fun b hb _ => ⟨⟨fun h => hb.1 (pick_sub b h), hb.2⟩, rfl⟩, fun k v g hg => ?_⟩
    unfold kf at hg
    rw [List.getD_eq_getElem?_getD] at hg
    cases hk : ks[k]? with
    | none =>
      rw [hk, Option.getD_none, ← hG.len] at hg
      simp at hg
    | some j =>
      rw [hk, Option.getD_some] at hg
      exact ⟨g, by rw [pick_get hk (hlt k j hk)]; exact hg⟩
  refine ⟨⟨by simp [pickG, hl], pick_nodup hG.nodup hn (fun k hk => ?_), fun b hb => hG.lt b (pick_sub b hb), fun b hb => hG.z b (pick_sub b hb), hG.zl, fun k v hv => ?_, fun i o g hi hg => ?_⟩, m⟩
  · obtain ⟨i, hi⟩ := List.getElem?_of_mem hk
    exact hlt i k hi
  · obtain ⟨g, hg⟩ := hG.hd k v hv
    have hk := hH k (List.getElem?_eq_some_iff.1 hv).1
    exact ⟨g, by rw [pick_get hk (hlt k k hk)]; exact hg⟩
  · obtain ⟨k, hk, hob⟩ := hget i o hi
    rw [pick_get hk (hlt i k hk)] at hg
    exact OR_mv m (fun b _ => rfl) (hG.ob k _ g hob hg)
theorem weak (ks : List Nat) (hn : ks.Nodup) (hH : ∀ k, k < X.H.length → ks[k]? = some k) (ho : Wo ob (kf ob.length ks) ks ob') (ht : Wt tm (kf ob.length ks) tm') : Wk X tm ob tm' ob' := fun a w hs => by
  obtain ⟨G, hG, hv⟩ := hs.ex
  obtain ⟨hG', m⟩ := wobs hG ks hn hH ho
  exact ⟨hs.n, hs.d, hs.kp, _, hG', fun t av hg => ⟨(hv t (av.ren (kf ob.length ks)) (wt_get ht hg)).1, VR_mv m av _ (hv t (av.ren (kf ob.length ks)) (wt_get ht hg)).2⟩⟩
theorem Wk.refl : Wk X tm ob tm ob := fun _ _ h => h
/-- No objects. -/
theorem weak0 (hH : X.H = []) (ht : Wt tm (kf ob.length []) tm') : Wk X tm ob tm' [] := weak [] List.nodup_nil (fun k hk => by simp [hH] at hk) .n ht

/-- Behind a round. -/
def LQ (X : Cx) {ι : Type} (tmf : ι → Tm) (obf : ι → List Ob) (inv : ι → Prop) (m : ι → Nat) (x : ι) (Q : Exit → Act → World → Prop) : Exit → Act → World → Prop :=
  Exit.then (fun a w => ∃ y, inv y ∧ m y < m x ∧ Sim X (tmf y) (obf y) a w) Q
theorem cloop {body : Code} {ι : Type} (tmf : ι → Tm) (obf : ι → List Ob) (inv : ι → Prop) (m : ι → Nat) (x0 : ι) (hi : inv x0) (hw : Wk X tm ob (tmf x0) (obf x0))
    (hr : ∀ x, inv x → CV P X body (LQ X tmf obf inv m x Q) (tmf x) (obf x)) : CV P X (.loop body) Q tm ob := fun a w hs => by
  refine wp_loop_ghost (fun n a w => ∃ x, inv x ∧ m x = n ∧ Sim X (tmf x) (obf x) a w) (m x0) ⟨x0, hi, rfl, hw a w hs⟩ ?_
  rintro n a w ⟨x, hx, rfl, hsim⟩
  refine wp_mono (hr x hx a w hsim) (fun e a' w' hq => ?_)
  cases e with
  | normal =>
    obtain ⟨y, h1, h2, h3⟩ := hq
    exact ⟨m y, h2, y, h1, rfl, h3⟩
  | exit id => exact hq
  | goto l => exact hq
  | ret => exact hq
  | panic ch => exact hq
  | outgrown => exact hq
theorem xlq {ι : Type} {tmf : ι → Tm} {obf : ι → List Ob} {inv : ι → Prop} {m : ι → Nat} {x : ι} (y : ι) (hi : inv y) (hm : m y < m x) (hw : Wk X tm ob (tmf y) (obf y)) : XV X .normal (LQ X tmf obf inv m x Q) tm ob :=
  fun a w hs => ⟨y, hi, hm, hw a w hs⟩
theorem xle {ι : Type} {tmf : ι → Tm} {obf : ι → List Ob} {inv : ι → Prop} {m : ι → Nat} {x : ι} {i : Nat} (h : XV X (.exit i) Q tm ob) : XV X (.exit i) (LQ X tmf obf inv m x Q) tm ob := fun a w hs => h a w hs
theorem xlr {ι : Type} {tmf : ι → Tm} {obf : ι → List Ob} {inv : ι → Prop} {m : ι → Nat} {x : ι} (h : XV X .ret Q tm ob) : XV X .ret (LQ X tmf obf inv m x Q) tm ob := fun a w hs => h a w hs
/-- A weaker state, anywhere. -/
theorem xwk {e : Exit} (hw : Wk X tm ob tm' ob') (h : XV X e Q tm' ob') : XV X e Q tm ob := fun a w hs => h a w (hw a w hs)
theorem cwk {c : Code} (hw : Wk X tm ob tm' ob') (h : CV P X c Q tm' ob') : CV P X c Q tm ob := fun a w hs => h a w (hw a w hs)
theorem owk {ops : Array Oper} {l : List Oper} (hw : Wk X tm ob tm' ob') (h : OV P X ops Q l tm' ob') : OV P X ops Q l tm ob := fun a w hs => h a w (hw a w hs)

/-- A function's contract: handed these values and objects it returns that, and nothing else has changed. -/
def Fn (P : Program) (f : Nat) {ι : Type} (av : ι → List AV) (ob : ι → List Ob) (pre : ι → Prop) (F : ι → AV × List Ob) : Prop :=
  ∀ x, pre x → ∀ (w : World) (G : Gh) (Z : List Nat) (vals : List Value), GOK ⟨w, fps G, G.map (·.1), 0, Z⟩ (ob x) G w → VRs w (okG Z G) G (av x) vals →
    Calls P f ⟨vals⟩ w fun e w' => ∃ v G', e = .returned v ∧ Kp (fps G) w w' ∧ GOK ⟨w, fps G, G.map (·.1), 0, Z⟩ (F x).2 G' w' ∧ VR w' (okG Z G') G' (F x).1 v

/-- The end of a function. -/
def RP (X : Cx) (r : AV × List Ob) (e : Ending) (w' : World) : Prop := ∃ v G', e = .returned v ∧ Kp X.S0 X.w0 w' ∧ GOK X r.2 G' w' ∧ VR w' (okG X.Z G') G' r.1 v

/-- Parameters in the frame's first slots. -/
def pars : Nat → List AV → Tm
  | _, [] => []
  | i, a :: as => (i, a) :: pars (i + 1) as
theorem pars_get : ∀ (as : List AV) (i t : Nat) (av : AV), get (pars i as) t = some av → i ≤ t ∧ as[t - i]? = some av
  | [], i, t, av, h => by simp [pars, get] at h
  | a :: as, i, t, av, h => by
    simp only [pars, get] at h
    split at h
    · rename_i he
      subst he
      simp only [Option.some.injEq] at h
      subst h
      simp
    · rename_i he
      obtain ⟨h1, h2⟩ := pars_get as (i + 1) t av h
      refine ⟨by omega, ?_⟩
      have : t - i = (t - (i + 1)) + 1 := by omega
      rw [this, List.getElem?_cons_succ]
      exact h2
theorem GOK_N {w0 : World} {S0 : List Nat} {H : List Value} {n m : Nat} {Z : List Nat} {G : Gh} (h : GOK ⟨w0, S0, H, n, Z⟩ ob G w) : GOK ⟨w0, S0, H, m, Z⟩ ob G w := ⟨h.len, h.nodup, h.lt, h.z, h.zl, h.hd, h.ob⟩

theorem fnI {f : Nat} {ι : Type} {av : ι → List AV} {obs : ι → List Ob} {pre : ι → Prop} {F : ι → AV × List Ob} {fn : Func} {c : Code} (hf : P.funcs[f]? = some fn) (hb : fn.body = some c)
    (h : ∀ x, pre x → (av x).length ≤ fn.ntmps ∧ ∀ X : Cx, X.N = fn.ntmps → X.H.length = (obs x).length → CV P X c (bodyPost P fn (RP X (F x))) (pars 0 (av x)) (obs x)) : Fn P f av obs pre F := by
  intro x hx w G Z vals hG hv
  obtain ⟨hl, hc⟩ := h x hx
  have hlen := VRs_len hv
  have hN : vals.length + (fn.ntmps - vals.length) = fn.ntmps := by omega
  refine (calls_of_wp hf hb (R := RP ⟨w, fps G, G.map (·.1), fn.ntmps, Z⟩ (F x)) (hc ⟨w, fps G, G.map (·.1), fn.ntmps, Z⟩ rfl (by simp [hG.len]) _ _ ?_)).mono ?_
  · refine ⟨by simp; omega, rfl, Kp.refl _ _, G, GOK_N hG, fun t a ht => ?_⟩
    obtain ⟨_, h2⟩ := pars_get _ 0 t a ht
    rw [Nat.sub_zero] at h2
    obtain ⟨v, hv1, hv2⟩ := VRs_get hv h2
    have htl : t < vals.length := (List.getElem?_eq_some_iff.1 hv1).1
    refine ⟨by show t < fn.ntmps; omega, ?_⟩
    have : (({ toList := vals } : Array Value) ++ Array.replicate (fn.ntmps - ({ toList := vals } : Array Value).size) undef).getD t undef = v := by
      rw [Array.getD_eq_getD_getElem?, Array.getElem?_append_left (by simpa using htl)]
      simp only [List.getElem?_toArray, hv1, Option.getD_some]
    rw [this]
    exact hv2
  · rintro e w' ⟨v, G', he, hk, hg, hr⟩
    exact ⟨v, G', he, hk, GOK_N hg, hr⟩

/-- The results lie in slots. -/
theorem ret1 {fn : Func} {t : Nat} {r : AV × List Ob} {av : AV} (hr : fn.results = #[.tmp t]) (hw : Wk X tm ob [(t, av)] ob') (he : r = (av, ob')) : XV X .ret (bodyPost P fn (RP X r)) tm ob := fun a w hs => by
  subst he
  have hs' := hw a w hs
  obtain ⟨G, hG, hv⟩ := hs'.ex
  refine ⟨hs'.d, a.tmps.getD t undef, by simp [results, hr], a.tmps.getD t undef, G, rfl, hs'.kp, hG, (hv t av (by simp [get])).2⟩
theorem ret0 {fn : Func} {r : AV × List Ob} (hr : fn.results = #[]) (hw : Wk X tm ob [] ob') (he : r = (.tup [], ob')) : XV X .ret (bodyPost P fn (RP X r)) tm ob := fun a w hs => by
  subst he
  have hs' := hw a w hs
  obtain ⟨G, hG, hv⟩ := hs'.ex
  refine ⟨hs'.d, .tuple #[], by simp [results, hr], _, G, rfl, hs'.kp, hG, ?_⟩
  simp only [VR]; exact ⟨[], rfl, rfl⟩
theorem retn0 {fn : Func} {r : AV × List Ob} (hr : fn.results = #[]) (hw : Wk X tm ob [] ob') (he : r = (.tup [], ob')) : XV X .normal (bodyPost P fn (RP X r)) tm ob := fun a w hs => ret0 (P := P) hr hw he a w hs
theorem ret2 {fn : Func} {t u : Nat} {r : AV × List Ob} {av bv : AV} (hr : fn.results = #[.tmp t, .tmp u]) (ht : (t == u) = false) (hw : Wk X tm ob [(t, av), (u, bv)] ob') (he : r = (.tup [av, bv], ob')) : XV X .ret (bodyPost P fn (RP X r)) tm ob := fun a w hs => by
  subst he
  have hs' := hw a w hs
  obtain ⟨G, hG, hv⟩ := hs'.ex
  have hne : ¬ t = u := by simpa using ht
  refine ⟨hs'.d, .tuple #[a.tmps.getD t undef, a.tmps.getD u undef], by simp [results, hr], _, G, rfl, hs'.kp, hG, ?_⟩
  simp only [VR, VRs]
  exact ⟨[_, _], rfl, _, _, rfl, (hv t av (by simp [get])).2, _, _, rfl, (hv u bv (by simp [get, hne])).2, rfl⟩
theorem ret3 {fn : Func} {t u s : Nat} {r : AV × List Ob} {av bv cv : AV} (hr : fn.results = #[.tmp t, .tmp u, .tmp s]) (h1 : (t == u) = false) (h2 : (t == s) = false) (h3 : (u == s) = false) (hw : Wk X tm ob [(t, av), (u, bv), (s, cv)] ob') (he : r = (.tup [av, bv, cv], ob')) : XV X .ret (bodyPost P fn (RP X r)) tm ob := fun a w hs => by
  subst he
  have hs' := hw a w hs
  obtain ⟨G, hG, hv⟩ := hs'.ex
  have g1 : ¬ t = u := by simpa using h1
  have g2 : ¬ t = s := by simpa using h2
  have g3 : ¬ u = s := by simpa using h3
  refine ⟨hs'.d, .tuple #[a.tmps.getD t undef, a.tmps.getD u undef, a.tmps.getD s undef], by simp [results, hr], _, G, rfl, hs'.kp, hG, ?_⟩
  simp only [VR, VRs]
  exact ⟨[_, _, _], rfl, _, _, rfl, (hv t av (by simp [get])).2, _, _, rfl, (hv u bv (by simp [get, g1])).2, _, _, rfl, (hv s cv (by simp [get, g2, g3])).2, rfl⟩
end
end Go.Proofs.YtifpekpmnlcmoaaE
