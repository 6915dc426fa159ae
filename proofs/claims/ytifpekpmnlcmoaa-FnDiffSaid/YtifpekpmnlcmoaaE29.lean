/- The engine, part 29: rows of rows opened: the elements as raw cells, their rows in a heap of rows. -/
import Derived.Test.YtifpekpmnlcmoaaE28
set_option linter.unusedVariables false
set_option linter.unusedSimpArgs false
namespace Go.Proofs.YtifpekpmnlcmoaaE
open Go Go.RowKit

@[reducible] def Ty.raw : Ty → Ty
  | .l _ => .v
  | t => t
@[reducible] def Tys.raw : Tys → Tys
  | .nil => .nil
  | .cons t ts => .cons t.raw ts.raw
/-- Raw cells that go with a datum. -/
def Sca : (ts : Tys) → ts.den → ts.raw.den → Prop
  | .nil, _, _ => True
  | .cons (.l _) ts, x, y => Sca ts x.2 y.2
  | .cons (.i _) ts, x, y => y.1 = x.1 ∧ Sca ts x.2 y.2
  | .cons .b ts, x, y => y.1 = x.1 ∧ Sca ts x.2 y.2
  | .cons .s ts, x, y => y.1 = x.1 ∧ Sca ts x.2 y.2
  | .cons .v ts, x, y => y.1 = x.1 ∧ Sca ts x.2 y.2
/-- The rows of a datum. -/
def ents : (ts : Tys) → ts.den → ts.raw.den → List Pe
  | .nil, _, _ => []
  | .cons (.l t) ts, x, y => ⟨t, x.1, y.1⟩ :: ents ts x.2 y.2
  | .cons (.i _) ts, x, y => ents ts x.2 y.2
  | .cons .b ts, x, y => ents ts x.2 y.2
  | .cons .s ts, x, y => ents ts x.2 y.2
  | .cons .v ts, x, y => ents ts x.2 y.2
theorem raw_sz : ∀ ts : Tys, ts.raw.sz = ts.sz
  | .nil => rfl
  | .cons t ts => by simp only [Tys.raw, Tys.sz, raw_sz ts]

theorem raw_flat : ∀ ts : Tys, ts.raw.flat = true
  | .nil => rfl
  | .cons t ts => by
    have := raw_flat ts
    cases t <;> simpa only [Tys.raw, Ty.raw, Tys.flat, Ty.flat, Bool.true_and] using this
theorem zvs_raw : ∀ ts : Tys, zvs ts.raw = zvs ts
  | .nil => rfl
  | .cons t ts => by
    simp only [Tys.raw, zvs, zvs_raw ts]
    cases t <;> rfl
theorem MI.raw {P : Program} {t e : TypeId} {ts : Tys} {by_ : Nat} (h : MI P t e ts by_) : MI P t e ts.raw by_ := ⟨h.u, by rw [zvs_raw, raw_sz]; exact h.i⟩

/-- Rows with their blocks. -/
def Pw (w : World) (ps : List Pe) (fs : List (List Nat)) : Prop := fs.length = ps.length ∧ ∀ (j : Nat) (p : Pe) (f : List Nat), ps[j]? = some p → fs[j]? = some f → RD w (.l p.ts) p.xs p.v f
theorem Pw.nil {w : World} : Pw w [] [] := ⟨rfl, fun j p f h => by simp at h⟩
theorem Pw.cons {w : World} {p : Pe} {ps : List Pe} {f : List Nat} {fs : List (List Nat)} (h : RD w (.l p.ts) p.xs p.v f) (hr : Pw w ps fs) : Pw w (p :: ps) (f :: fs) :=
  ⟨by simp [hr.1], fun j q g h1 h2 => by
    cases j with
    | zero => simp only [List.getElem?_cons_zero, Option.some.injEq] at h1 h2; subst h1 h2; exact h
    | succ j => exact hr.2 j q g (by simpa using h1) (by simpa using h2)⟩
theorem Pw.uncons {w : World} {p : Pe} {ps : List Pe} {fs : List (List Nat)} (h : Pw w (p :: ps) fs) : ∃ f fs', fs = f :: fs' ∧ RD w (.l p.ts) p.xs p.v f ∧ Pw w ps fs' := by
  cases fs with
  | nil => have := h.1; simp at this
  | cons f fs => exact ⟨f, fs, rfl, h.2 0 p f rfl rfl, by have := h.1; simpa using this, fun j q g h1 h2 => h.2 (j + 1) q g (by simpa using h1) (by simpa using h2)⟩
theorem Pw.app {w : World} : ∀ {ps qs : List Pe} {fs gs : List (List Nat)}, Pw w ps fs → Pw w qs gs → Pw w (ps ++ qs) (fs ++ gs)
  | [], qs, fs, gs, h1, h2 => by have : fs = [] := List.eq_nil_of_length_eq_zero h1.1; subst this; exact h2
  | p :: ps, qs, fs, gs, h1, h2 => by obtain ⟨f, fs', rfl, h3, h4⟩ := h1.uncons; exact .cons h3 (Pw.app h4 h2)
theorem Pw.unapp {w : World} : ∀ {ps qs : List Pe} {fs : List (List Nat)}, Pw w (ps ++ qs) fs → ∃ f1 f2, fs = f1 ++ f2 ∧ Pw w ps f1 ∧ Pw w qs f2
  | [], qs, fs, h => ⟨[], fs, rfl, .nil, h⟩
  | p :: ps, qs, fs, h => by
    obtain ⟨f, fs', rfl, h1, h2⟩ := Pw.uncons h
    obtain ⟨f1, f2, rfl, h3, h4⟩ := Pw.unapp h2
    exact ⟨f :: f1, f2, rfl, .cons h1 h3, h4⟩
theorem Pw.perm {w : World} {ps qs : List Pe} (h : ps.Perm qs) : ∀ {fs : List (List Nat)}, Pw w ps fs → ∃ gs, fs.Perm gs ∧ Pw w qs gs := by
  induction h with
  | nil => intro fs h; exact ⟨fs, .refl _, h⟩
  | cons x _ ih =>
    intro fs h
    obtain ⟨f, fs', rfl, h1, h2⟩ := h.uncons
    obtain ⟨gs, h3, h4⟩ := ih h2
    exact ⟨f :: gs, h3.cons f, .cons h1 h4⟩
  | swap x y l =>
    intro fs h
    obtain ⟨f, fs', rfl, h1, h2⟩ := h.uncons
    obtain ⟨f2, fs2, rfl, h3, h4⟩ := h2.uncons
    exact ⟨f2 :: f :: fs2, .swap _ _ _, .cons h3 (.cons h1 h4)⟩
  | trans _ _ ih1 ih2 =>
    intro fs h
    obtain ⟨gs, h1, h2⟩ := ih1 h
    obtain ⟨gs2, h3, h4⟩ := ih2 h2
    exact ⟨gs2, h1.trans h3, h4⟩

theorem rds_open {w : World} {ok : Nat → Prop} : ∀ (ts : Tys) (x : ts.den) (cs : List Value) (f : List Nat), RDs w ts x cs f → ∃ (r : ts.raw.den) (fs : List (List Nat)), Sca ts x r ∧ RSs w ok ts.raw r cs ∧ Pw w (ents ts x r) fs ∧ f = fs.flatten
  | .nil, _, cs, f, h => by
    simp only [RDs] at h
    obtain ⟨rfl, rfl⟩ := h
    exact ⟨(), [], trivial, rfl, .nil, rfl⟩
  | .cons t ts, (x, xs), cs, f, h => by
    simp only [RDs] at h
    obtain ⟨v, cs', f1, f2, rfl, rfl, h1, h2⟩ := h
    obtain ⟨r, fs, h3, h4, h5, rfl⟩ := rds_open (ok := ok) ts xs cs' f2 h2
    cases t with
    | l t' =>
      have hone : v.oneCell' = true := RS_one (.l t') x v (RS_of_RD (ok := fun _ => True) (.l t') x v f1 (fun _ _ => trivial) h1)
      exact ⟨(v, r), f1 :: fs, h3, ⟨v, cs', rfl, ⟨rfl, hone⟩, h4⟩, .cons h1 h5, rfl⟩
    | i k => simp only [RD] at h1; obtain ⟨h1, rfl⟩ := h1; exact ⟨(x, r), fs, ⟨rfl, h3⟩, ⟨v, cs', rfl, h1, h4⟩, h5, rfl⟩
    | b => simp only [RD] at h1; obtain ⟨h1, rfl⟩ := h1; exact ⟨(x, r), fs, ⟨rfl, h3⟩, ⟨v, cs', rfl, h1, h4⟩, h5, rfl⟩
    | s => simp only [RD] at h1; obtain ⟨h1, rfl⟩ := h1; exact ⟨(x, r), fs, ⟨rfl, h3⟩, ⟨v, cs', rfl, h1, h4⟩, h5, rfl⟩
    | v => simp only [RD] at h1; obtain ⟨h1, rfl⟩ := h1; exact ⟨(x, r), fs, ⟨rfl, h3⟩, ⟨v, cs', rfl, h1, h4⟩, h5, rfl⟩
theorem rds_close {w : World} {ok : Nat → Prop} : ∀ (ts : Tys) (x : ts.den) (r : ts.raw.den) (cs : List Value) (fs : List (List Nat)), Sca ts x r → RSs w ok ts.raw r cs → Pw w (ents ts x r) fs → RDs w ts x cs fs.flatten
  | .nil, _, _, cs, fs, _, h, hp => by
    have : fs = [] := List.eq_nil_of_length_eq_zero hp.1
    subst this
    simp only [Tys.raw, RSs] at h
    exact ⟨h, rfl⟩
  | .cons t ts, (x, xs), (y, ys), cs, fs, hs, h, hp => by
    cases t with
    | l t' =>
      simp only [Tys.raw, Ty.raw, RSs, RS] at h
      obtain ⟨v, cs', rfl, h1, h2⟩ := h
      simp only [ents] at hp
      obtain ⟨f, fs', rfl, h3, h4⟩ := hp.uncons
      have := rds_close ts xs ys cs' fs' hs h2 h4
      refine ⟨v, cs', f, fs'.flatten, rfl, rfl, ?_, this⟩
      rw [h1.1]; exact h3
    | i k => obtain ⟨h0, hs⟩ := hs; simp only at h0; subst h0; obtain ⟨v, cs', rfl, h1, h2⟩ := h; exact ⟨v, cs', [], fs.flatten, rfl, rfl, ⟨h1, rfl⟩, rds_close ts xs ys cs' fs hs h2 hp⟩
    | b => obtain ⟨h0, hs⟩ := hs; simp only at h0; subst h0; obtain ⟨v, cs', rfl, h1, h2⟩ := h; exact ⟨v, cs', [], fs.flatten, rfl, rfl, ⟨h1, rfl⟩, rds_close ts xs ys cs' fs hs h2 hp⟩
    | s => obtain ⟨h0, hs⟩ := hs; simp only at h0; subst h0; obtain ⟨v, cs', rfl, h1, h2⟩ := h; exact ⟨v, cs', [], fs.flatten, rfl, rfl, ⟨h1, rfl⟩, rds_close ts xs ys cs' fs hs h2 hp⟩
    | v => obtain ⟨h0, hs⟩ := hs; simp only at h0; subst h0; obtain ⟨v, cs', rfl, h1, h2⟩ := h; exact ⟨v, cs', [], fs.flatten, rfl, rfl, ⟨h1, rfl⟩, rds_close ts xs ys cs' fs hs h2 hp⟩

/-- Elements with their raw cells. -/
abbrev An (ts : Tys) : Type := List (ts.den × ts.raw.den)
@[reducible] def An.d {ts : Tys} (q : An ts) : List ts.den := q.map (·.1)
@[reducible] def An.r {ts : Tys} (q : An ts) : List ts.raw.den := q.map (·.2)
def An.e {ts : Tys} (q : An ts) : List Pe := q.flatMap fun p => ents ts p.1 p.2
def An.ok {ts : Tys} (q : An ts) : Prop := ∀ p ∈ q, Sca ts p.1 p.2
theorem An.e_app {ts : Tys} (q r : An ts) : An.e (q ++ r) = An.e q ++ An.e r := by simp [An.e]

section
variable {P : Program} {X : Cx} {Q : Exit → Act → World → Prop} {tm tm' : Tm} {ob ob' : List Ob} {a : Act} {w w' : World} {G G' : Gh} {M M' : List Nat}

theorem open_all {ok : Nat → Prop} {ts : Tys} : ∀ (xs : List ts.den) (fs : List (List Nat)) (n : Nat) (inner : List Value), fs.length = xs.length → (∀ (j : Nat) (x : ts.den) (f : List Nat), xs[j]? = some x → fs[j]? = some f → RDs w ts x (chunk ts.sz (n + j) inner) f) →
    ∃ (q : An ts) (gs : List (List Nat)), q.d = xs ∧ An.ok q ∧ (∀ (j : Nat) (r : ts.raw.den), q.r[j]? = some r → RSs w ok ts.raw r (chunk ts.sz (n + j) inner)) ∧ Pw w (An.e q) gs ∧ gs.flatten = fs.flatten
  | [], fs, n, inner, hl, h => by
    have : fs = [] := List.eq_nil_of_length_eq_zero hl
    subst this
    exact ⟨[], [], rfl, fun p hp => by simp at hp, fun j r h => by simp at h, .nil, rfl⟩
  | x :: xs, [], n, inner, hl, h => by simp at hl
  | x :: xs, f :: fs, n, inner, hl, h => by
    obtain ⟨r, gs, h1, h2, h3, h4⟩ := rds_open (ok := ok) ts x _ f (h 0 x f rfl rfl)
    obtain ⟨q, gs2, h5, h6, h7, h8, h9⟩ := open_all (ok := ok) xs fs (n + 1) inner (by simpa using hl) (fun j y g hj hg => by
      have := h (j + 1) y g (by simpa using hj) (by simpa using hg)
      rwa [show n + (j + 1) = n + 1 + j by omega] at this)
    refine ⟨(x, r) :: q, gs ++ gs2, by simp [An.d] at h5 ⊢; exact h5, fun p hp => ?_, fun j y hj => ?_, ?_, by simp [h4, h9]⟩
    · rcases List.mem_cons.1 hp with rfl | hp
      · exact h1
      · exact h6 p hp
    · cases j with
      | zero => simp [An.r] at hj; subst hj; exact h2
      | succ j =>
        have := h7 j y (by simpa [An.r] using hj)
        rwa [show n + (j + 1) = n + 1 + j by omega]
    · show Pw w (ents ts x r ++ An.e q) _
      exact h3.app h8
theorem close_all {ok : Nat → Prop} {ts : Tys} : ∀ (q : An ts) (gs : List (List Nat)) (n : Nat) (inner : List Value), An.ok q → (∀ (j : Nat) (r : ts.raw.den), q.r[j]? = some r → RSs w ok ts.raw r (chunk ts.sz (n + j) inner)) → Pw w (An.e q) gs →
    ∃ fs : List (List Nat), fs.length = q.d.length ∧ (∀ (j : Nat) (x : ts.den) (f : List Nat), q.d[j]? = some x → fs[j]? = some f → RDs w ts x (chunk ts.sz (n + j) inner) f) ∧ fs.flatten = gs.flatten
  | [], gs, n, inner, ho, h, hp => by
    have : gs = [] := List.eq_nil_of_length_eq_zero hp.1
    subst this
    exact ⟨[], rfl, fun j x f h => by simp at h, rfl⟩
  | (x, r) :: q, gs, n, inner, ho, h, hp => by
    have hp' : Pw w (ents ts x r ++ An.e q) gs := hp
    obtain ⟨f1, f2, rfl, h1, h2⟩ := hp'.unapp
    obtain ⟨fs, h3, h4, h5⟩ := close_all q f2 (n + 1) inner (fun p hp => ho p (List.mem_cons_of_mem _ hp)) (fun j y hj => by
      have := h (j + 1) y (by simpa [An.r] using hj)
      rwa [show n + (j + 1) = n + 1 + j by omega] at this) h2
    refine ⟨f1.flatten :: fs, by simp [An.d] at h3 ⊢; exact h3, fun j y f hj hf => ?_, by simp [h5]⟩
    cases j with
    | zero =>
      simp [An.d] at hj hf
      subst hj hf
      exact rds_close ts x r _ f1 (ho _ List.mem_cons_self) (h 0 r rfl) h1
    | succ j =>
      have := h4 j y f (by simpa [An.d] using hj) (by simpa using hf)
      rwa [show n + (j + 1) = n + 1 + j by omega]
/-- Rows of rows, opened. -/
theorem copen {cd : Code} {k : Nat} {e : TypeId} {ts : Tys} {xs : List ts.den} (ho : ob[k]? = some (.arr true e ts xs))
    (h : ∀ q : An ts, q.d = xs → An.ok q → CV P X cd Q tm (ob.set k (.arr false e ts.raw q.r) ++ [.pile (An.e q)])) : CV P X cd Q tm ob := fun a w hs => by
  obtain ⟨G, hG, hv⟩ := hs.ex
  have hkl : k < G.length := by rw [hG.len]; exact (List.getElem?_eq_some_iff.1 ho).1
  have hg : G[k]? = some (G[k].1, G[k].2) := List.getElem?_eq_getElem hkl
  have hor := hG.ob k _ _ ho hg
  simp only [OR] at hor
  obtain ⟨inner, fs, hown, hfl, hel, hf⟩ := hor
  obtain ⟨q, gs, h1, h2, h3, h4, h5⟩ := open_all (w := w) (ok := fun _ => False) xs fs 0 inner hfl (fun j x f hj hg => by rw [Nat.zero_add]; exact hel j x f hj hg)
  have hflat := raw_flat ts
  refine h q h1 h2 a w ?_
  have hnd := nodup_each hG.nodup k _ hg
  simp only at hnd
  rw [hf, List.nodup_append] at hnd
  have hat : ∀ (i : Nat) (g : Value × List Nat), (G.set k (G[k].1, G[k].1.ownBlock.toList) ++ [(undef, fs.flatten)])[i]? = some g → (i ≠ k ∧ G[i]? = some g) ∨ (i = k ∧ g = (G[k].1, G[k].1.ownBlock.toList)) ∨ (i = G.length ∧ g = (undef, fs.flatten)) := by
    intro i g hi
    by_cases hil : i < G.length
    · rw [List.getElem?_append_left (by simpa using hil)] at hi
      by_cases hik : i = k
      · subst hik
        rw [List.getElem?_set_self hkl] at hi
        simp only [Option.some.injEq] at hi
        exact .inr (.inl ⟨rfl, hi.symm⟩)
      · rw [List.getElem?_set_ne (Ne.symm hik)] at hi
        exact .inl ⟨hik, hi⟩
    · rw [List.getElem?_append_right (by simpa using hil)] at hi
      have := List.mem_of_getElem? hi
      simp only [List.mem_singleton] at this
      have hl := (List.getElem?_eq_some_iff.1 hi).1
      simp at hl
      exact .inr (.inr ⟨by omega, this⟩)
  have hsub : ∀ b ∈ fps (G.set k (G[k].1, G[k].1.ownBlock.toList) ++ [(undef, fs.flatten)]), b ∈ fps G := by
    intro b hb
    obtain ⟨i, g, hi, hb'⟩ := fps_get hb
    rcases hat i g hi with ⟨_, h6⟩ | ⟨_, rfl⟩ | ⟨_, rfl⟩
    · exact fps_mem h6 hb'
    · exact fps_mem hg (by show b ∈ G[k].2; rw [hf]; exact List.mem_append_left _ hb')
    · exact fps_mem hg (by show b ∈ G[k].2; rw [hf]; exact List.mem_append_right _ hb')
  have hin : ∀ b, b ∈ G[k].1.ownBlock.toList ∨ b ∈ fs.flatten → b ∈ G[k].2 := fun b hb => by rw [hf]; exact List.mem_append.2 hb
  have hheads : ∀ (i : Nat) (v : Value) (f : List Nat), G[i]? = some (v, f) → ∃ f', (G.set k (G[k].1, G[k].1.ownBlock.toList) ++ [(undef, fs.flatten)])[i]? = some (v, f') := by
    intro i v f hi
    have hil := (List.getElem?_eq_some_iff.1 hi).1
    rw [List.getElem?_append_left (by simpa using hil)]
    by_cases hik : i = k
    · subst hik
      rw [List.getElem?_set_self hkl]
      rw [hg] at hi
      simp only [Option.some.injEq, Prod.mk.injEq] at hi
      exact ⟨_, by rw [hi.1]⟩
    · rw [List.getElem?_set_ne (Ne.symm hik)]
      exact ⟨f, hi⟩
  have hGn : GOK X (ob.set k (.arr false e ts.raw q.r) ++ [.pile (An.e q)]) (G.set k (G[k].1, G[k].1.ownBlock.toList) ++ [(undef, fs.flatten)]) w := by
    refine gok_gen hG hs.kp.size (Kp.refl _ w) (by simp [hG.len]) (nodup_of (fun i g hi => ?_) (fun i j g g' hij hi hj b hb hb' => ?_)) (fun b hb => ⟨.inl (hsub b hb), (hG.lt b (hsub b hb)).1⟩) hheads (fun i o g h6 h7 => ?_)
    · rcases hat i g hi with ⟨_, h6⟩ | ⟨_, rfl⟩ | ⟨_, rfl⟩
      · exact nodup_each hG.nodup i g h6
      · exact hnd.1
      · exact hnd.2.1
    · rcases hat i g hi with ⟨h6, h7⟩ | ⟨h6, rfl⟩ | ⟨h6, rfl⟩
      · rcases hat j g' hj with ⟨h8, h9⟩ | ⟨_, rfl⟩ | ⟨_, rfl⟩
        · exact nodup_apart hG.nodup i j g g' hij h7 h9 b hb hb'
        · exact nodup_apart hG.nodup i k g _ h6 h7 hg b hb (hin b (.inl hb'))
        · exact nodup_apart hG.nodup i k g _ h6 h7 hg b hb (hin b (.inr hb'))
      · rcases hat j g' hj with ⟨h8, h9⟩ | ⟨h8, rfl⟩ | ⟨h8, rfl⟩
        · exact nodup_apart hG.nodup j k g' _ h8 h9 hg b hb' (hin b (.inl hb))
        · omega
        · exact hnd.2.2 b hb b hb' rfl
      · rcases hat j g' hj with ⟨h8, h9⟩ | ⟨h8, rfl⟩ | ⟨h8, rfl⟩
        · exact nodup_apart hG.nodup j k g' _ h8 h9 hg b hb' (hin b (.inr hb))
        · exact hnd.2.2 b hb' b hb rfl
        · omega
    · rcases hat i g h7 with ⟨h8, h9⟩ | ⟨rfl, rfl⟩ | ⟨rfl, rfl⟩
      · left
        have hil := (List.getElem?_eq_some_iff.1 h9).1
        rw [List.getElem?_append_left (by rw [List.length_set, ← hG.len]; exact hil), List.getElem?_set_ne (Ne.symm h8)] at h6
        exact ⟨h6, h9, fun _ _ => rfl⟩
      · right
        rw [List.getElem?_append_left (by rw [List.length_set, ← hG.len]; exact hkl), List.getElem?_set_self (by rw [← hG.len]; exact hkl)] at h6
        simp only [Option.some.injEq] at h6
        subst h6
        simp only [OR]
        have hql : q.r.length = xs.length := by rw [← h1]; simp [An.r, An.d]
        refine ⟨inner, by rw [raw_sz, hql]; exact hown, fun j r hj => ?_, trivial⟩
        have := h3 j r hj
        rw [Nat.zero_add, ← raw_sz ts] at this
        exact RSs_flat ts.raw r _ hflat this
      · right
        rw [hG.len, List.getElem?_append_right (by simp)] at h6
        simp at h6
        subst h6
        simp only [OR]
        exact ⟨gs, h4.1, h4.2, by rw [h5]; exact hnd.2.1, fun b hb => by rw [h5] at hb; exact hb⟩
  exact ⟨hs.n, hs.d, hs.kp, _, hGn, fun t av ht => ⟨(hv t av ht).1, VR_mv' (mv_step (Kp.refl _ w) hheads (fun b hb => .inl (hsub b hb))) (hv t av ht).2⟩⟩

inductive Piles (ob : List Ob) : List Nat → List Pe → Prop
  | n : Piles ob [] []
  | c {j : Nat} {js : List Nat} {p ps : List Pe} (h : ob[j]? = some (.pile p)) (r : Piles ob js ps) : Piles ob (j :: js) (p ++ ps)
theorem piles_ok (hG : GOK X ob G w) {js : List Nat} {ps : List Pe} (h : Piles ob js ps) (hn : js.Nodup) : ∃ fs : List (List Nat), Pw w ps fs ∧ fs.flatten.Nodup ∧ ∀ b ∈ fs.flatten, b ∈ fps (pickG G js) := by
  induction h with
  | n => exact ⟨[], .nil, List.nodup_nil, by simp⟩
  | @c j js p ps h r ih =>
    rw [List.nodup_cons] at hn
    obtain ⟨fs, h1, h2, h3⟩ := ih hn.2
    have hjl : j < G.length := by rw [hG.len]; exact (List.getElem?_eq_some_iff.1 h).1
    have hg := List.getElem?_eq_getElem hjl
    have hor := hG.ob j _ _ h hg
    simp only [OR] at hor
    obtain ⟨f1, h4, h5, h6, h7⟩ := hor
    refine ⟨f1 ++ fs, Pw.app ⟨h4, h5⟩ h1, ?_, fun b hb => ?_⟩
    · rw [List.flatten_append, List.nodup_append]
      refine ⟨h6, h2, fun b hb c hc hbc => ?_⟩
      subst hbc
      obtain ⟨k, g, h8, h9, h10⟩ := pick_mem (h3 b hc)
      exact nodup_apart hG.nodup j k _ g (fun e => hn.1 (e ▸ h8)) hg h9 b (h7 b hb) h10
    · rw [List.flatten_append] at hb
      rcases List.mem_append.1 hb with hb | hb
      · exact mem_pick (k := j) List.mem_cons_self hg (h7 b hb)
      · obtain ⟨k, g, h8, h9, h10⟩ := pick_mem (h3 b hb)
        exact mem_pick (List.mem_cons_of_mem _ h8) h9 h10
theorem flat_perm {a b : List (List Nat)} (h : a.Perm b) : a.flatten.Perm b.flatten := by
  induction h with
  | nil => exact .refl _
  | cons x _ ih => simp only [List.flatten_cons]; exact ih.append_left x
  | swap x y l =>
    simp only [List.flatten_cons]
    rw [← List.append_assoc, ← List.append_assoc]
    exact List.perm_append_comm.append_right _
  | trans _ _ ih1 ih2 => exact ih1.trans ih2
/-- .. and closed: out of these heaps, some left over. -/
theorem wclose {k : Nat} (js : List Nat) {e : TypeId} {ts : Tys} {rs : List ts.raw.den} {ps : List Pe} (q : An ts) (R : List Pe) (ho : ob[k]? = some (.arr false e ts.raw rs)) (hr : rs = q.r) (hp : Piles ob js ps) (hok : An.ok q) (hperm : (An.e q ++ R).Perm ps) (hn : js.Nodup) :
    Wk X tm ob tm (kill js 0 (ob.set k (.arr true e ts q.d))) := fun a w hs => by
  subst hr
  obtain ⟨G, hG, hv⟩ := hs.ex
  have hkl : k < G.length := by rw [hG.len]; exact (List.getElem?_eq_some_iff.1 ho).1
  have hg : G[k]? = some (G[k].1, G[k].2) := List.getElem?_eq_getElem hkl
  have hor := hG.ob k _ _ ho hg
  simp only [OR] at hor
  obtain ⟨inner, hown, hel, hf⟩ := hor
  obtain ⟨fs, h1, h2, h3⟩ := piles_ok hG hp hn
  obtain ⟨gs, h4, h5⟩ := Pw.perm hperm.symm h1
  obtain ⟨f1, f2, rfl, h6, h7⟩ := h5.unapp
  have hnd1 : f1.flatten.Nodup := by
    have := (flat_perm h4).nodup h2
    rw [List.flatten_append, List.nodup_append] at this
    exact this.1
  have hsub1 : ∀ b ∈ f1.flatten, b ∈ fps (pickG G js) := fun b hb => h3 b ((flat_perm h4).mem_iff.2 (by rw [List.flatten_append]; exact List.mem_append_left _ hb))
  obtain ⟨fs2, h8, h9, h10⟩ := close_all (w := w) (ok := okG X.Z G) q f1 0 inner hok (fun j r hj => by
    have := hel j r hj
    rw [raw_sz] at this
    rwa [Nat.zero_add]) h6
  have hkjs : k ∉ js := by
    intro hk
    clear h3 hsub1 h1 hperm
    induction hp with
    | n => simp at hk
    | @c j js p ps h r ih =>
      rcases List.mem_cons.1 hk with rfl | hk
      · rw [ho] at h; cases h
      · exact ih (List.nodup_cons.1 hn).2 hk
  have hat : ∀ (i : Nat) (g : Value × List Nat), (killG js 0 (G.set k (G[k].1, G[k].1.ownBlock.toList ++ f1.flatten)))[i]? = some g → (i = k ∧ g = (G[k].1, G[k].1.ownBlock.toList ++ f1.flatten)) ∨ (i ≠ k ∧ i ∉ js ∧ G[i]? = some g) ∨ (i ≠ k ∧ i ∈ js ∧ g.2 = [] ∧ ∃ g0, G[i]? = some g0 ∧ g.1 = g0.1) := by
    intro i g hi
    obtain ⟨g0, q1, q2, q3⟩ := kg_cases hi
    by_cases hik : i = k
    · subst hik
      rw [List.getElem?_set_self hkl] at q1
      simp only [Option.some.injEq] at q1
      subst q1
      rcases q3 with ⟨q3, _⟩ | ⟨_, rfl⟩
      · exact absurd q3 hkjs
      · exact .inl ⟨rfl, rfl⟩
    · rw [List.getElem?_set_ne (Ne.symm hik)] at q1
      rcases q3 with ⟨q3, q4⟩ | ⟨q3, rfl⟩
      · exact .inr (.inr ⟨hik, q3, q4, g0, q1, q2⟩)
      · exact .inr (.inl ⟨hik, q3, q1⟩)
  have hsub : ∀ b ∈ fps (killG js 0 (G.set k (G[k].1, G[k].1.ownBlock.toList ++ f1.flatten))), b ∈ fps G := by
    intro b hb
    obtain ⟨i, g, hi, hb'⟩ := fps_get hb
    rcases hat i g hi with ⟨_, rfl⟩ | ⟨_, _, q1⟩ | ⟨_, _, q1, _⟩
    · rcases List.mem_append.1 hb' with h | h
      · exact fps_mem hg (by show b ∈ G[k].2; rw [hf]; exact h)
      · exact pick_sub b (hsub1 b h)
    · exact fps_mem q1 hb'
    · rw [q1] at hb'; simp at hb'
  have hheads : ∀ (i : Nat) (v : Value) (f : List Nat), G[i]? = some (v, f) → ∃ f', (killG js 0 (G.set k (G[k].1, G[k].1.ownBlock.toList ++ f1.flatten)))[i]? = some (v, f') := by
    intro i v f hi
    rw [killG_get, Nat.zero_add]
    by_cases hik : i = k
    · subst hik
      rw [List.getElem?_set_self hkl]
      rw [hg] at hi
      simp only [Option.some.injEq, Prod.mk.injEq] at hi
      exact ⟨_, by simp [hkjs, hi.1]; rfl⟩
    · rw [List.getElem?_set_ne (Ne.symm hik), hi]
      by_cases hj : i ∈ js
      · exact ⟨[], by simp [hj]⟩
      · exact ⟨f, by simp [hj]⟩
  have hndk : (G[k].1.ownBlock.toList ++ f1.flatten).Nodup := by
    rw [List.nodup_append]
    refine ⟨by cases G[k].1.ownBlock <;> simp, hnd1, fun b hb c hc hbc => ?_⟩
    subst hbc
    obtain ⟨i, g, q1, q2, q3⟩ := pick_mem (hsub1 b hc)
    exact nodup_apart hG.nodup k i _ g (fun e => hkjs (e ▸ q1)) hg q2 b (by show b ∈ G[k].2; rw [hf]; exact hb) q3
  have hGn : GOK X (kill js 0 (ob.set k (.arr true e ts q.d))) (killG js 0 (G.set k (G[k].1, G[k].1.ownBlock.toList ++ f1.flatten))) w := by
    refine gok_gen hG hs.kp.size (Kp.refl _ w) (by simp [kill_len, killG_len, hG.len]) (nodup_of (fun i g hi => ?_) (fun i j g g' hij hi hj b hb hb' => ?_)) (fun b hb => ⟨.inl (hsub b hb), (hG.lt b (hsub b hb)).1⟩) hheads (fun i o g h6 h7 => ?_)
    · rcases hat i g hi with ⟨_, rfl⟩ | ⟨_, _, q1⟩ | ⟨_, _, q1, _⟩
      · exact hndk
      · exact nodup_each hG.nodup i g q1
      · rw [q1]; exact List.nodup_nil
    · have key : ∀ (i j : Nat) (g g' : Value × List Nat), i ≠ j → ((i = k ∧ g = (G[k].1, G[k].1.ownBlock.toList ++ f1.flatten))) → (j ≠ k ∧ j ∉ js ∧ G[j]? = some g') → ∀ b ∈ g.2, b ∉ g'.2 := by
        rintro i j g g' hij ⟨rfl, rfl⟩ ⟨q1, q2, q3⟩ b hb hb'
        rcases List.mem_append.1 hb with h | h
        · exact nodup_apart hG.nodup i j _ g' hij hg q3 b (by show b ∈ G[i].2; rw [hf]; exact h) hb'
        · obtain ⟨l, gl, q4, q5, q6⟩ := pick_mem (hsub1 b h)
          exact nodup_apart hG.nodup l j gl g' (fun e => q2 (e ▸ q4)) q5 q3 b q6 hb'
      rcases hat i g hi with q1 | q1 | ⟨_, _, q1, _⟩
      · rcases hat j g' hj with q2 | q2 | ⟨_, _, q2, _⟩
        · omega
        · exact key i j g g' hij q1 q2 b hb hb'
        · rw [q2] at hb'; simp at hb'
      · rcases hat j g' hj with q2 | q2 | ⟨_, _, q2, _⟩
        · exact key j i g' g (Ne.symm hij) q2 q1 b hb' hb
        · exact nodup_apart hG.nodup i j g g' hij q1.2.2 q2.2.2 b hb hb'
        · rw [q2] at hb'; simp at hb'
      · rw [q1] at hb; simp at hb
    · rw [kill_get, Option.map_eq_some_iff] at h6
      obtain ⟨o0, q1, q2⟩ := h6
      rw [Nat.zero_add] at q2
      rcases hat i g h7 with ⟨rfl, rfl⟩ | ⟨q3, q4, q5⟩ | ⟨q3, q4, q5, g0, q6, q7⟩
      · right
        simp only [List.elem_eq_mem, hkjs, decide_false, cond_false] at q2
        subst q2
        rw [List.getElem?_set_self (by rw [← hG.len]; exact hkl)] at q1
        simp only [Option.some.injEq] at q1
        subst q1
        simp only [OR]
        have hql : q.r.length = q.d.length := by simp [An.r, An.d]
        refine ⟨inner, fs2, ?_, h8, fun j x f hj hf' => ?_, by rw [h10]⟩
        · rw [raw_sz, hql] at hown; exact hown
        · have := h9 j x f hj hf'
          rwa [Nat.zero_add] at this
      · left
        simp only [List.elem_eq_mem, q4, decide_false, cond_false] at q2
        subst q2
        rw [List.getElem?_set_ne (Ne.symm q3)] at q1
        exact ⟨q1, q5, fun _ _ => rfl⟩
      · right
        simp only [List.elem_eq_mem, q4, decide_true, cond_true] at q2
        subst q2
        rw [List.getElem?_set_ne (Ne.symm q3)] at q1
        exact hd_ok (hG.ob i _ _ q1 q6) q7 q5
  exact ⟨hs.n, hs.d, hs.kp, _, hGn, fun t av ht => ⟨(hv t av ht).1, VR_mv' (mv_step (Kp.refl _ w) hheads (fun b hb => .inl (hsub b hb))) (hv t av ht).2⟩⟩
end
end Go.Proofs.YtifpekpmnlcmoaaE
