/- The engine, part 8: a call by its contract. -/
import Derived.Test.YtifpekpmnlcmoaaE7
set_option linter.unusedVariables false
set_option linter.unusedSimpArgs false
namespace Go.Proofs.YtifpekpmnlcmoaaE
open Go Go.RowKit

theorem nodup_of {G : Gh} : (∀ (i : Nat) (g : Value × List Nat), G[i]? = some g → g.2.Nodup) → (∀ (i j : Nat) (g g' : Value × List Nat), i ≠ j → G[i]? = some g → G[j]? = some g' → ∀ b ∈ g.2, b ∉ g'.2) → (fps G).Nodup := by
  induction G with
  | nil => intro _ _; simp [fps]
  | cons x G ih =>
    intro h1 h2
    rw [fps_cons, List.nodup_append]
    refine ⟨h1 0 x rfl, ih (fun i g hi => h1 (i + 1) g (by simpa using hi)) (fun i j g g' hij hi hj => h2 (i + 1) (j + 1) g g' (by omega) (by simpa using hi) (by simpa using hj)), ?_⟩
    intro b hb c hc he
    subst he
    obtain ⟨g, hg, hbg⟩ := List.mem_flatMap.1 hc
    obtain ⟨j, hj⟩ := List.getElem?_of_mem hg
    exact h2 0 (j + 1) x g (by omega) rfl (by simpa using hj) b hb hbg

/-- Places ks written anew. -/
def repl {α : Type} (l : List α) (ks : List Nat) (rs : List α) : List α :=
  match ks, rs with
  | [], _ => l
  | _ :: _, [] => l
  | k :: ks, r :: rs => repl (l.set k r) ks rs
theorem repl_len {α : Type} : ∀ (ks : List Nat) (l : List α) (rs : List α), (repl l ks rs).length = l.length
  | [], l, _ => by simp [repl]
  | _ :: _, l, [] => by simp [repl]
  | k :: ks, l, r :: rs => by rw [repl, repl_len ks]; simp
theorem repl_ne {α : Type} : ∀ (ks : List Nat) (l : List α) (rs : List α) (j : Nat), j ∉ ks → (repl l ks rs)[j]? = l[j]?
  | [], l, _, j, _ => by simp [repl]
  | _ :: _, l, [], j, _ => by simp [repl]
  | k :: ks, l, r :: rs, j, h => by
    simp only [List.mem_cons, not_or] at h
    rw [repl, repl_ne ks _ rs j h.2, List.getElem?_set_ne (Ne.symm h.1)]
theorem repl_at {α : Type} : ∀ (ks : List Nat) (l : List α) (rs : List α) (i k : Nat) (r : α), ks.Nodup → ks[i]? = some k → rs[i]? = some r → k < l.length → (repl l ks rs)[k]? = some r
  | [], l, _, i, k, r, _, h, _, _ => by simp at h
  | _ :: _, l, [], i, k, r, _, _, h, _ => by simp at h
  | k' :: ks, l, r' :: rs, 0, k, r, hn, h1, h2, hk => by
    simp only [List.getElem?_cons_zero, Option.some.injEq] at h1 h2
    subst h1 h2
    rw [List.nodup_cons] at hn
    rw [repl, repl_ne ks _ rs _ hn.1, List.getElem?_set_self hk]
  | k' :: ks, l, r' :: rs, i + 1, k, r, hn, h1, h2, hk => by
    simp only [List.getElem?_cons_succ] at h1 h2
    rw [List.nodup_cons] at hn
    rw [repl]
    exact repl_at ks _ rs i k r hn.2 h1 h2 (by simpa using hk)

/-- The callee's numbers in the caller's. -/
def gf (n : Nat) (ks : List Nat) (i : Nat) : Nat := if i < ks.length then ks.getD i 0 else n + (i - ks.length)

mutual
/-- Nothing that is only shared. -/
def AV.free : AV → Bool
  | .c t _ => t.flat
  | .rp _ _ => false
  | .agg xs => AV.frees xs
  | .fn _ cs => AV.frees cs
  | .tup xs => AV.frees xs
  | _ => true
def AV.frees : List AV → Bool
  | [] => true
  | a :: as => a.free && AV.frees as
end
def Ob.free : Ob → Bool
  | .dead => true
  | .hed => true
  | .box _ cells => AV.frees cells
  | .arr d _ ts _ => d || ts.flat
  | .bld _ _ _ => true
  | .pile _ => true
  | .prt _ ts _ _ => ts.flat
mutual
theorem VR_free {w : World} {ok ok' : Nat → Prop} {G : Gh} : ∀ (av : AV) (v : Value), av.free = true → VR w ok G av v → VR w ok' G av v
  | .z, v, _, h => h
  | .nl, v, _, h => h
  | .np, v, _, h => h
  | .c t x, v, hf, h => by simp only [VR] at h ⊢; exact RS_flat hf h
  | .own k, v, _, h => by simpa only [VR] using h
  | .agg xs, v, hf, h => by
    simp only [VR] at h ⊢; obtain ⟨vs, hv, h⟩ := h; exact ⟨vs, hv, VRs_free xs vs hf h⟩
  | .rp ts x, v, hf, h => by simp [AV.free] at hf
  | .bp k o, v, _, h => by simpa only [VR] using h
  | .ep k i s o, v, _, h => by simpa only [VR] using h
  | .sub k lo n s, v, _, h => by simpa only [VR] using h
  | .bs k n, v, _, h => by simpa only [VR] using h
  | .fn g cs, v, hf, h => by
    simp only [VR] at h ⊢; obtain ⟨vs, hv, h⟩ := h; exact ⟨vs, hv, VRs_free cs vs hf h⟩
  | .tup xs, v, hf, h => by
    simp only [VR] at h ⊢; obtain ⟨vs, hv, h⟩ := h; exact ⟨vs, hv, VRs_free xs vs hf h⟩
theorem VRs_free {w : World} {ok ok' : Nat → Prop} {G : Gh} : ∀ (as : List AV) (vs : List Value), AV.frees as = true → VRs w ok G as vs → VRs w ok' G as vs
  | [], vs, _, h => h
  | a :: as, vs, hf, h => by
    simp only [AV.frees, Bool.and_eq_true] at hf
    simp only [VRs] at h ⊢
    obtain ⟨v, vs', hv, h1, h2⟩ := h
    exact ⟨v, vs', hv, VR_free a v hf.1 h1, VRs_free as vs' hf.2 h2⟩
end
theorem RSs_flat {w : World} {ok ok' : Nat → Prop} : ∀ (ts : Tys) (x : ts.den) (cs : List Value), ts.flat = true → RSs w ok ts x cs → RSs w ok' ts x cs
  | .nil, _, cs, _, h => h
  | .cons t ts, (x, xs), cs, hf, h => by
    simp only [Tys.flat, Bool.and_eq_true] at hf
    simp only [RSs] at h ⊢
    obtain ⟨v, cs', hc, h1, h2⟩ := h
    exact ⟨v, cs', hc, RS_flat hf.1 h1, RSs_flat ts xs cs' hf.2 h2⟩
theorem OR_free {w : World} {ok ok' : Nat → Prop} {G : Gh} {o : Ob} {g : Value × List Nat} (hf : o.free = true) (h : OR w ok G o g) : OR w ok' G o g := by
  cases o with
  | dead => exact h
  | hed => exact h
  | bld T e bs => exact h
  | pile ps => exact h
  | prt e ts xs c =>
    simp only [OR] at h ⊢
    obtain ⟨b, inner, h1, h2, h3⟩ := h
    exact ⟨b, inner, h1, h2, fun j x hj => RSs_flat ts x _ hf (h3 j x hj)⟩
  | box ty cells =>
    simp only [OR] at h ⊢
    obtain ⟨b, vs, h1, h2, h3, h4⟩ := h
    exact ⟨b, vs, h1, h2, VRs_free cells vs hf h3, h4⟩
  | arr d e ts xs =>
    cases d with
    | true => exact h
    | false =>
      simp only [OR] at h ⊢
      obtain ⟨inner, h1, h2, h3⟩ := h
      exact ⟨inner, h1, fun j x hj => RSs_flat ts x _ (by simpa [Ob.free] using hf) (h2 j x hj), h3⟩

/-- Out of a callee's numbering. -/
structure Up (w : World) (ok ok' : Nat → Prop) (G G' : Gh) (g : Nat → Nat) : Prop where
  ok : ∀ b, ok b → b < w.heap.size → ok' b
  G : ∀ (k : Nat) (v : Value) (f : List Nat), G[k]? = some (v, f) → ∃ f', G'[g k]? = some (v, f')
mutual
theorem VR_up {w : World} {ok ok' : Nat → Prop} {G G' : Gh} {g : Nat → Nat} (m : Up w ok ok' G G' g) : ∀ (av : AV) (v : Value), VR w ok G av v → VR w ok' G' (av.ren g) v
  | .z, v, _ => trivial
  | .nl, v, h => by simpa only [VR, AV.ren] using h
  | .np, v, h => by simpa only [VR, AV.ren] using h
  | .c t x, v, h => by
    simp only [VR, AV.ren] at h ⊢
    exact RS_mono (Nat.le_refl _) (fun b h1 h2 => ⟨m.ok b h1 h2, rfl⟩) t x v h
  | .own k, v, h => by
    simp only [VR, AV.ren] at h ⊢
    obtain ⟨⟨u, f⟩, hg, hv⟩ := h
    obtain ⟨f', hg'⟩ := m.G k u f hg
    exact ⟨_, hg', hv⟩
  | .agg xs, v, h => by
    simp only [VR, AV.ren] at h ⊢
    obtain ⟨vs, hv, h⟩ := h
    exact ⟨vs, hv, VRs_up m xs vs h⟩
  | .rp ts x, v, h => by
    simp only [VR, AV.ren] at h ⊢
    obtain ⟨b, p, cs, hv, hok, hlt, hr, hat⟩ := h
    exact ⟨b, p, cs, hv, m.ok b hok hlt, hlt, RSs_mono (Nat.le_refl _) (fun b h1 h2 => ⟨m.ok b h1 h2, rfl⟩) ts x cs hr, hat⟩
  | .bp k o, v, h => by
    simp only [VR, AV.ren] at h ⊢
    obtain ⟨b, f, hg, hv⟩ := h
    obtain ⟨f', hg'⟩ := m.G k _ f hg
    exact ⟨b, f', hg', hv⟩
  | .ep k i s o, v, h => by
    simp only [VR, AV.ren] at h ⊢
    obtain ⟨b, n, c, f, hg, hv⟩ := h
    obtain ⟨f', hg'⟩ := m.G k _ f hg
    exact ⟨b, n, c, f', hg', hv⟩
  | .sub k lo q s, v, h => by
    simp only [VR, AV.ren] at h ⊢
    rcases h with h | ⟨b, n, c, f, hg, hv⟩
    · exact .inl h
    · obtain ⟨f', hg'⟩ := m.G k _ f hg
      exact .inr ⟨b, n, c, f', hg', hv⟩
  | .bs k n, v, h => by
    simp only [VR, AV.ren] at h ⊢
    obtain ⟨b, f, hg, hv⟩ := h
    obtain ⟨f', hg'⟩ := m.G k _ f hg
    exact ⟨b, f', hg', hv⟩
  | .fn g' cs, v, h => by
    simp only [VR, AV.ren] at h ⊢
    obtain ⟨vs, hv, h⟩ := h
    exact ⟨vs, hv, VRs_up m cs vs h⟩
  | .tup xs, v, h => by
    simp only [VR, AV.ren] at h ⊢
    obtain ⟨vs, hv, h⟩ := h
    exact ⟨vs, hv, VRs_up m xs vs h⟩
theorem VRs_up {w : World} {ok ok' : Nat → Prop} {G G' : Gh} {g : Nat → Nat} (m : Up w ok ok' G G' g) : ∀ (as : List AV) (vs : List Value), VRs w ok G as vs → VRs w ok' G' (AV.rens g as) vs
  | [], vs, h => by simpa only [VRs, AV.rens] using h
  | a :: as, vs, h => by
    simp only [VRs, AV.rens] at h ⊢
    obtain ⟨v, vs', hv, h1, h2⟩ := h
    exact ⟨v, vs', hv, VR_up m a v h1, VRs_up m as vs' h2⟩
end
theorem OR_up {w : World} {ok ok' : Nat → Prop} {G G' : Gh} {g : Nat → Nat} (m : Up w ok ok' G G' g) {o : Ob} {p : Value × List Nat} (h : OR w ok G o p) : OR w ok' G' (o.ren g) p := by
  cases o with
  | dead => exact h
  | hed => exact h
  | bld T e bs => exact h
  | pile ps => exact h
  | prt e ts xs c =>
    simp only [OR, Ob.ren] at h ⊢
    obtain ⟨b, inner, h1, h2, h3⟩ := h
    exact ⟨b, inner, h1, h2, fun j x hj => RSs_mono (Nat.le_refl _) (fun b h1 h2 => ⟨m.ok b h1 h2, rfl⟩) ts x _ (h3 j x hj)⟩
  | box ty cells =>
    simp only [OR, Ob.ren] at h ⊢
    obtain ⟨b, vs, h1, h2, h3, h4⟩ := h
    exact ⟨b, vs, h1, h2, VRs_up m cells vs h3, h4⟩
  | arr d e ts xs =>
    cases d with
    | false =>
      simp only [OR, Ob.ren] at h ⊢
      obtain ⟨inner, h1, h2, h3⟩ := h
      exact ⟨inner, h1, fun j x hj => RSs_mono (Nat.le_refl _) (fun b h1 h2 => ⟨m.ok b h1 h2, rfl⟩) ts x _ (h2 j x hj), h3⟩
    | true => exact h

/-- How the caller's values are the callee's: the same, or a row of one's own looked at as data. -/
inductive Ac (ob : List Ob) (f : Nat → Nat) (vs : List Nat) : AV → AV → Prop
  | e {a b : AV} (h : a = b.ren f) : Ac ob f vs a b
  | o {k : Nat} {d : Bool} {e : TypeId} {ts : Tys} {xs : List ts.den} (hk : k ∈ vs) (h : ob[k]? = some (.arr d e ts xs)) : Ac ob f vs (.own k) (.c (.l ts) xs)
  | n {ts : Tys} : Ac ob f vs .nl (.c (.l ts) [])
  | p {k : Nat} {ts : Tys} {xs : List ts.den} {v : Value} {ps : List Pe} (hk : k ∈ vs) (h : ob[k]? = some (.pile ps)) (hm : Pe.mk ts xs v ∈ ps) : Ac ob f vs (.c .v v) (.c (.l ts) xs)
inductive Acs (ob : List Ob) (f : Nat → Nat) (vs : List Nat) : List AV → List AV → Prop
  | n : Acs ob f vs [] []
  | c {a b : AV} {as bs : List AV} (h : Ac ob f vs a b) (r : Acs ob f vs as bs) : Acs ob f vs (a :: as) (b :: bs)
/-- A variable in memory, only read. -/
inductive Ab (ob : List Ob) (f : Nat → Nat) (vs : List Nat) : AV → AV → Prop
  | a {a b : AV} (h : Ac ob f vs a b) : Ab ob f vs a b
  | b {k off : Nat} {t : TypeId} {cells as bs : List AV} {ts : Tys} {x : ts.den} (hk : k ∈ vs) (h : ob[k]? = some (.box t cells)) (hc : (cells.drop off).take ts.sz = as) (hb : avs ts.sz ts x = bs) (hs : Acs ob f vs as bs) : Ab ob f vs (.bp k off) (.rp ts x)
inductive Abs (ob : List Ob) (f : Nat → Nat) (vs : List Nat) : List AV → List AV → Prop
  | n : Abs ob f vs [] []
  | c {a b : AV} {as bs : List AV} (h : Ab ob f vs a b) (r : Abs ob f vs as bs) : Abs ob f vs (a :: as) (b :: bs)
inductive Ar (ob : List Ob) (f : Nat → Nat) (vs : List Nat) : AV → AV → Prop
  | c {a b : AV} (h : Ac ob f vs a b) : Ar ob f vs a b
  | g {as bs : List AV} (h : Acs ob f vs as bs) : Ar ob f vs (.agg as) (.agg bs)
  | b {a b : AV} (h : Ab ob f vs a b) : Ar ob f vs a b
  | f {g : Nat} {as bs : List AV} (h : Abs ob f vs as bs) : Ar ob f vs (.fn g as) (.fn g bs)
inductive Ars (tm : Tm) (ob : List Ob) (f : Nat → Nat) (vs : List Nat) : List Operand → List AV → Prop
  | n : Ars tm ob f vs [] []
  | c {x : Operand} {a b : AV} {xs : List Operand} {bs : List AV} (hx : rd tm x = some a) (h : Ar ob f vs a b) (r : Ars tm ob f vs xs bs) : Ars tm ob f vs (x :: xs) (b :: bs)

section
variable {P : Program} {X : Cx} {Q : Exit → Act → World → Prop} {tm : Tm} {ob : List Ob} {a : Act} {w : World}

theorem Ac_ok {G Gc : Gh} {Zc : List Nat} {f : Nat → Nat} {vs : List Nat} (m : Mv w w (okG X.Z G) (okG Zc Gc) G Gc f) (hG : GOK X ob G w)
    (hvs : ∀ k ∈ vs, ∀ g, G[k]? = some g → ∀ b ∈ g.2, okG Zc Gc b) {a b : AV} {v : Value} (h : Ac ob f vs a b) (hv : VR w (okG X.Z G) G a v) : VR w (okG Zc Gc) Gc b v := by
  cases h with
  | e h => subst h; exact VR_mv m b v hv
  | @o k d e ts xs hk h =>
    simp only [VR] at hv ⊢
    obtain ⟨g, hg, rfl⟩ := hv
    have hor := hG.ob k _ g h hg
    cases d with
    | true =>
      simp only [OR] at hor
      obtain ⟨inner, fs, ho, hl, hx, he⟩ := hor
      refine RS_of_RD (.l ts) xs g.1 g.2 (fun b hb => hvs k hk g hg b hb) ?_
      simp only [RD]
      exact ⟨e, inner, fs, ho, hl, hx, he⟩
    | false =>
      simp only [OR] at hor
      obtain ⟨inner, ho, hx, he⟩ := hor
      obtain ⟨u, fp⟩ := g
      simp only at ho he
      subst he
      simp only [RS]
      have ho' := ho
      rcases ho.2 with ⟨rfl, h0⟩ | ⟨g, cap, cur, rfl, hb, hgg, hn, hm, hs, ht⟩
      · have hxs : xs = [] := List.eq_nil_of_length_eq_zero h0
        subst hxs
        exact ⟨none, 0, rfl, Nat.le_refl _, by omega, fun h => absurd rfl h⟩
      · refine ⟨_, cap, rfl, hn, by simpa only [maxLen] using hm, fun hne => ⟨g, 0, rfl, hvs k hk _ hg g (by simp [Value.ownBlock]), (Array.getElem?_eq_some_iff.1 hgg).1, fun j x hj => ?_⟩⟩
        exact ⟨chunk ts.sz j inner, RSs_mono (Nat.le_refl _) (fun b h1 h2 => ⟨(m.ok b h1 h2).1, rfl⟩) ts x _ (hx j x hj), at_of_owns ho' j⟩
  | @n ts =>
    simp only [VR] at hv ⊢
    subst hv
    simp only [RS]
    exact ⟨none, 0, rfl, Nat.le_refl _, by omega, fun h => absurd rfl h⟩
  | @p k ts xs u ps hk h hm =>
    simp only [VR, RS] at hv ⊢
    obtain ⟨rfl, _⟩ := hv
    have hkl : k < G.length := by rw [hG.len]; exact (List.getElem?_eq_some_iff.1 h).1
    have hg := List.getElem?_eq_getElem hkl
    have hor := hG.ob k _ _ h hg
    simp only [OR] at hor
    obtain ⟨fs, hl, hx, hn, he⟩ := hor
    obtain ⟨j, hj⟩ := List.getElem?_of_mem hm
    have hjl := (List.getElem?_eq_some_iff.1 hj).1
    have hf : fs[j]? = some fs[j] := List.getElem?_eq_getElem (by omega)
    have := RS_of_RD (.l ts) xs v fs[j] (ok := okG Zc Gc) (fun b hb => hvs k hk _ hg b (he b (List.mem_flatten.2 ⟨_, List.mem_of_getElem? hf, hb⟩))) (hx j _ _ hj hf)
    simpa only [RS] using this
theorem Acs_ok {G Gc : Gh} {Zc : List Nat} {f : Nat → Nat} {vs : List Nat} (m : Mv w w (okG X.Z G) (okG Zc Gc) G Gc f) (hG : GOK X ob G w)
    (hvs : ∀ k ∈ vs, ∀ g, G[k]? = some g → ∀ b ∈ g.2, okG Zc Gc b) {as bs : List AV} (h : Acs ob f vs as bs) : ∀ {us : List Value}, VRs w (okG X.Z G) G as us → VRs w (okG Zc Gc) Gc bs us := by
  induction h with
  | n => intro us h; exact h
  | c h r ih =>
    intro us hu
    simp only [VRs] at hu ⊢
    obtain ⟨v, vs', hv, h1, h2⟩ := hu
    exact ⟨v, vs', hv, Ac_ok m hG hvs h h1, ih h2⟩
theorem avs_RSs0 {w : World} {ok : Nat → Prop} {G : Gh} : ∀ (ts : Tys) (x : ts.den) (cs : List Value), VRs w ok G (avs ts.sz ts x) cs → RSs w ok ts x cs
  | .nil, _, cs, h => by simp only [Tys.sz, avs, VRs] at h; subst h; simp only [RSs]
  | .cons t ts, (x, xs), cs, h => by
    simp only [Tys.sz, avs, VRs] at h
    obtain ⟨v, cs', rfl, h1, h2⟩ := h
    simp only [RSs]
    exact ⟨v, cs', rfl, by simpa only [VR] using h1, avs_RSs0 ts xs cs' h2⟩
theorem VRs_dt {w : World} {ok : Nat → Prop} {G : Gh} : ∀ (as : List AV) (vs : List Value) (off n : Nat), VRs w ok G as vs → VRs w ok G ((as.drop off).take n) ((vs.drop off).take n)
  | as, vs, _, 0, h => by simp [VRs]
  | [], vs, off, n + 1, h => by simp only [VRs] at h; subst h; simp [VRs]
  | a :: as, vs, 0, n + 1, h => by
    simp only [VRs] at h
    obtain ⟨v, vs', rfl, h1, h2⟩ := h
    simp only [List.drop_zero, List.take_succ_cons, VRs]
    exact ⟨v, _, rfl, h1, by simpa using VRs_dt as vs' 0 n h2⟩
  | a :: as, vs, off + 1, n + 1, h => by
    simp only [VRs] at h
    obtain ⟨v, vs', rfl, h1, h2⟩ := h
    simp only [List.drop_succ_cons]
    exact VRs_dt as vs' off (n + 1) h2
theorem Ab_ok {G Gc : Gh} {Zc : List Nat} {f : Nat → Nat} {vs : List Nat} (m : Mv w w (okG X.Z G) (okG Zc Gc) G Gc f) (hG : GOK X ob G w)
    (hvs : ∀ k ∈ vs, ∀ g, G[k]? = some g → ∀ b ∈ g.2, okG Zc Gc b) {a b : AV} {v : Value} (h : Ab ob f vs a b) (hv : VR w (okG X.Z G) G a v) : VR w (okG Zc Gc) Gc b v := by
  cases h with
  | a h => exact Ac_ok m hG hvs h hv
  | @b k off t cells as bs ts x hk h hc hb hs =>
    simp only [VR] at hv ⊢
    obtain ⟨b, fp, hg, rfl⟩ := hv
    have hor := hG.ob k _ _ h hg
    simp only [OR] at hor
    obtain ⟨b', us, he, hh, hr, ho⟩ := hor
    simp only [Prod.mk.injEq, Value.pointer.injEq, Option.some.injEq, Addr.mk.injEq] at he
    obtain ⟨⟨rfl, _⟩, rfl⟩ := he
    have hr' := VRs_dt cells us off ts.sz hr
    rw [hc] at hr'
    have hr2 := Acs_ok m hG hvs hs hr'
    rw [← hb] at hr2
    refine ⟨b, off, _, rfl, hvs k hk _ hg b (by simp), (Array.getElem?_eq_some_iff.1 hh).1, avs_RSs0 ts x _ hr2, fun i u hu => ?_⟩
    rw [List.getElem?_take] at hu
    split at hu
    · rw [List.getElem?_drop] at hu
      show w.cell? ⟨b, off + i, none⟩ = some u
      simp only [World.cell?, hh]; simpa using hu
    · cases hu
theorem Abs_ok {G Gc : Gh} {Zc : List Nat} {f : Nat → Nat} {vs : List Nat} (m : Mv w w (okG X.Z G) (okG Zc Gc) G Gc f) (hG : GOK X ob G w)
    (hvs : ∀ k ∈ vs, ∀ g, G[k]? = some g → ∀ b ∈ g.2, okG Zc Gc b) {as bs : List AV} (h : Abs ob f vs as bs) : ∀ {us : List Value}, VRs w (okG X.Z G) G as us → VRs w (okG Zc Gc) Gc bs us := by
  induction h with
  | n => intro us h; exact h
  | c h r ih =>
    intro us hu
    simp only [VRs] at hu ⊢
    obtain ⟨v, vs', hv, h1, h2⟩ := hu
    exact ⟨v, vs', hv, Ab_ok m hG hvs h h1, ih h2⟩
theorem Ars_ok {G Gc : Gh} {Zc : List Nat} {f : Nat → Nat} {vs : List Nat} (m : Mv w w (okG X.Z G) (okG Zc Gc) G Gc f) (hG : GOK X ob G w) (hv : ∀ t av, get tm t = some av → t < X.N ∧ VR w (okG X.Z G) G av (a.tmps.getD t undef))
    (hvs : ∀ k ∈ vs, ∀ g, G[k]? = some g → ∀ b ∈ g.2, okG Zc Gc b) {xs : List Operand} {bs : List AV} (h : Ars tm ob f vs xs bs) : VRs w (okG Zc Gc) Gc bs (xs.map a.eval) := by
  induction h with
  | n => exact rfl
  | c hx h r ih =>
    simp only [List.map_cons, VRs]
    refine ⟨_, _, rfl, ?_, ih⟩
    have hx' := rd_ok hv hx
    cases h with
    | c h => exact Ac_ok m hG hvs h hx'
    | g h =>
      simp only [VR] at hx' ⊢
      obtain ⟨us, he, hx'⟩ := hx'
      exact ⟨us, he, Acs_ok m hG hvs h hx'⟩
    | b h => exact Ab_ok m hG hvs h hx'
    | f h =>
      simp only [VR] at hx' ⊢
      obtain ⟨us, he, hx'⟩ := hx'
      exact ⟨us, he, Abs_ok m hG hvs h hx'⟩
end
end Go.Proofs.YtifpekpmnlcmoaaE
