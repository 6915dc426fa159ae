/- The engine, part 10: new objects, changed objects; variables in memory. -/
import Derived.Test.YtifpekpmnlcmoaaE9
set_option linter.unusedVariables false
set_option linter.unusedSimpArgs false
namespace Go.Proofs.YtifpekpmnlcmoaaE
open Go Go.RowKit

section
variable {P : Program} {X : Cx} {Q : Exit → Act → World → Prop} {tm : Tm} {ob : List Ob} {a : Act} {w w' : World} {G G' : Gh}

theorem gok_gen {ob' : List Ob} (hG : GOK X ob G w) (hs0 : X.w0.heap.size ≤ w.heap.size) (hk : Kp (fps G) w w') (hl : G'.length = ob'.length) (hn : (fps G').Nodup)
    (hb : ∀ b ∈ fps G', (b ∈ fps G ∨ w.heap.size ≤ b) ∧ b < w'.heap.size) (hh : ∀ (k : Nat) (v : Value) (g : List Nat), G[k]? = some (v, g) → ∃ g', G'[k]? = some (v, g'))
    (ho : ∀ (k : Nat) (o : Ob) (g : Value × List Nat), ob'[k]? = some o → G'[k]? = some g → (ob[k]? = some o ∧ G[k]? = some g ∧ ∀ b ∈ g.2, w'.heap[b]? = w.heap[b]?) ∨ OR w' (okG X.Z G') G' o g) : GOK X ob' G' w' := by
  have m : Mv w w' (okG X.Z G) (okG X.Z G') G G' (fun k => k) := mv_step hk hh (fun b h => (hb b h).1)
  refine ⟨hl, hn, fun b h => ⟨(hb b h).2, ?_⟩, fun b h hz => ?_, hG.zl, fun k v hv => ?_, fun k o g h1 h2 => ?_⟩
  · rcases (hb b h).1 with h | h
    · exact (hG.lt b h).2
    · exact .inr (Nat.le_trans hs0 h)
  · rcases (hb b h).1 with h | h
    · exact hG.z b h hz
    · have := hG.zl b hz; omega
  · obtain ⟨g, hg⟩ := hG.hd k v hv
    exact hh k v g hg
  · rcases ho k o g h1 h2 with ⟨h3, h4, h5⟩ | h
    · exact OR_mv' m h5 (hG.ob k o g h3 h4)
    · exact h

/-- Object k's blocks given up. -/
def kl (G : Gh) (k : Nat) : Gh := G.modify k fun g => (g.1, [])
theorem kl_ne {k i : Nat} (h : i ≠ k) : (kl G k)[i]? = G[i]? := by simp [kl, List.getElem?_modify, Ne.symm h]
theorem kl_at {k : Nat} {g : Value × List Nat} (h : G[k]? = some g) : (kl G k)[k]? = some (g.1, []) := by simp [kl, List.getElem?_modify, h]
theorem kl_len {k : Nat} : (kl G k).length = G.length := by simp [kl]
theorem kl_out {k : Nat} (h : G.length ≤ k) : kl G k = G := by
  apply List.ext_getElem?
  intro i
  by_cases hi : i = k
  · subst hi; simp [kl, List.getElem?_modify, List.getElem?_eq_none h]
  · exact kl_ne hi

/-- A new object, which may take over the blocks of object k. -/
theorem gok_app (hG : GOK X ob G w) (hs0 : X.w0.heap.size ≤ w.heap.size) (k : Nat) {g : Value × List Nat} {o : Ob} (hk : Kp (fps G) w w') (hkeep : ∀ (i : Nat) (gi : Value × List Nat), i ≠ k → G[i]? = some gi → ∀ b ∈ gi.2, w'.heap[b]? = w.heap[b]?)
    (hnd : g.2.Nodup) (hb : ∀ b ∈ g.2, b < w'.heap.size ∧ ((∃ gk, G[k]? = some gk ∧ b ∈ gk.2) ∨ w.heap.size ≤ b)) (hor : OR w' (okG X.Z (kl G k ++ [g])) (kl G k ++ [g]) o g) :
    GOK X (ob.set k .dead ++ [o]) (kl G k ++ [g]) w' ∧ (∀ (i : Nat) (v : Value) (f : List Nat), G[i]? = some (v, f) → ∃ f', (kl G k ++ [g])[i]? = some (v, f')) ∧ (∀ b ∈ fps (kl G k ++ [g]), b ∈ fps G ∨ w.heap.size ≤ b) := by
  have hat : ∀ (i : Nat) (gi : Value × List Nat), (kl G k ++ [g])[i]? = some gi → (i = G.length ∧ gi = g) ∨ (i < G.length ∧ i ≠ k ∧ G[i]? = some gi) ∨ (i < G.length ∧ i = k ∧ gi.2 = []) := by
    intro i gi h
    by_cases hi : i < G.length
    · rw [List.getElem?_append_left (by rw [kl_len]; exact hi)] at h
      by_cases hik : i = k
      · subst hik
        rw [kl_at (List.getElem?_eq_getElem hi)] at h
        simp only [Option.some.injEq] at h
        subst h
        exact .inr (.inr ⟨hi, rfl, rfl⟩)
      · rw [kl_ne hik] at h
        exact .inr (.inl ⟨hi, hik, h⟩)
    · rw [List.getElem?_append_right (by rw [kl_len]; omega), kl_len] at h
      rcases Nat.lt_or_ge 0 (i - G.length) with h' | h'
      · rw [List.getElem?_eq_none (by simp; omega)] at h
        cases h
      · have : i = G.length := by omega
        subst this
        simp at h
        exact .inl ⟨rfl, h.symm⟩
  have hheads : ∀ (i : Nat) (v : Value) (f : List Nat), G[i]? = some (v, f) → ∃ f', (kl G k ++ [g])[i]? = some (v, f') := by
    intro i v f h
    have hi := (List.getElem?_eq_some_iff.1 h).1
    rw [List.getElem?_append_left (by rw [kl_len]; exact hi)]
    by_cases hik : i = k
    · subst hik
      exact ⟨[], kl_at h⟩
    · exact ⟨f, by rw [kl_ne hik]; exact h⟩
  have hbb : ∀ b ∈ fps (kl G k ++ [g]), (b ∈ fps G ∨ w.heap.size ≤ b) ∧ b < w'.heap.size := by
    intro b h
    obtain ⟨i, gi, hi, hb'⟩ := fps_get h
    rcases hat i gi hi with ⟨_, rfl⟩ | ⟨_, _, h3⟩ | ⟨_, _, h3⟩
    · refine ⟨?_, (hb b hb').1⟩
      rcases (hb b hb').2 with ⟨gk, h1, h2⟩ | h
      · exact .inl (fps_mem h1 h2)
      · exact .inr h
    · exact ⟨.inl (fps_mem h3 hb'), Nat.lt_of_lt_of_le (hG.lt b (fps_mem h3 hb')).1 hk.size⟩
    · rw [h3] at hb'; simp at hb'
  have hap : ∀ (i : Nat) (gi : Value × List Nat), i ≠ k → G[i]? = some gi → ∀ b ∈ gi.2, b ∉ g.2 := by
    intro i gi hik h b hbi hbg
    rcases (hb b hbg).2 with ⟨gk, h1, h2⟩ | h'
    · exact nodup_apart hG.nodup i k gi gk hik h h1 b hbi h2
    · have := (hG.lt b (fps_mem h hbi)).1; omega
  refine ⟨gok_gen hG hs0 hk (by simp [kl_len, hG.len]) (nodup_of (fun i gi hi => ?_) (fun i j gi gj hij hi hj b hbi hbj => ?_)) hbb hheads (fun i o' gi h1 h2 => ?_), hheads, fun b h => (hbb b h).1⟩
  · rcases hat i gi hi with ⟨_, rfl⟩ | ⟨_, _, h3⟩ | ⟨_, _, h3⟩
    · exact hnd
    · exact nodup_each hG.nodup i gi h3
    · rw [h3]; exact List.nodup_nil
  · rcases hat i gi hi with ⟨h1, rfl⟩ | ⟨_, h2, h3⟩ | ⟨_, _, h3⟩
    · rcases hat j gj hj with ⟨h4, rfl⟩ | ⟨_, h5, h6⟩ | ⟨_, _, h6⟩
      · omega
      · exact hap j gj h5 h6 b hbj hbi
      · rw [h6] at hbj; simp at hbj
    · rcases hat j gj hj with ⟨h4, rfl⟩ | ⟨_, h5, h6⟩ | ⟨_, _, h6⟩
      · exact hap i gi h2 h3 b hbi hbj
      · exact nodup_apart hG.nodup i j gi gj hij h3 h6 b hbi hbj
      · rw [h6] at hbj; simp at hbj
    · rw [h3] at hbi; simp at hbi
  · rcases hat i gi h2 with ⟨h3, rfl⟩ | ⟨h3, h4, h5⟩ | ⟨h3, h4, h5⟩
    · right
      rw [h3, hG.len, List.getElem?_append_right (by simp)] at h1
      simp at h1
      rw [← h1]
      exact hor
    · left
      rw [List.getElem?_append_left (by rw [List.length_set, ← hG.len]; exact h3), List.getElem?_set_ne (Ne.symm h4)] at h1
      exact ⟨h1, h5, hkeep i gi h4 h5⟩
    · right
      rw [List.getElem?_append_left (by rw [List.length_set, ← hG.len]; exact h3), h4, List.getElem?_set_self (by rw [← hG.len, ← h4]; exact h3)] at h1
      simp only [Option.some.injEq] at h1
      subst h1
      exact h5
/-- A new object, all of it new. -/
theorem gok_new (hG : GOK X ob G w) (hs0 : X.w0.heap.size ≤ w.heap.size) {g : Value × List Nat} {o : Ob} (hk : Kp [] w w') (hnd : g.2.Nodup) (hb : ∀ b ∈ g.2, b < w'.heap.size ∧ w.heap.size ≤ b) (hor : OR w' (okG X.Z (G ++ [g])) (G ++ [g]) o g) :
    GOK X (ob ++ [o]) (G ++ [g]) w' ∧ (∀ (i : Nat) (v : Value) (f : List Nat), G[i]? = some (v, f) → ∃ f', (G ++ [g])[i]? = some (v, f')) ∧ (∀ b ∈ fps (G ++ [g]), b ∈ fps G ∨ w.heap.size ≤ b) := by
  have h1 : kl G G.length = G := kl_out (Nat.le_refl _)
  have h2 : ob.set G.length .dead = ob := List.set_eq_of_length_le (by rw [hG.len]; exact Nat.le_refl _)
  have := gok_app hG hs0 G.length (g := g) (o := o) (hk.mono (fun b hb => by simp at hb)) (fun i gi _ h b hbi => hk.block b (hG.lt b (fps_mem h hbi)).1 (by simp)) hnd (fun b h => ⟨(hb b h).1, .inr (hb b h).2⟩) (by rw [h1]; exact hor)
  rwa [h1, h2] at this
/-- An object changed where it lies. -/
theorem gok_set (hG : GOK X ob G w) (hs0 : X.w0.heap.size ≤ w.heap.size) {k : Nat} {v : Value} {f f' : List Nat} (hgk : G[k]? = some (v, f)) {o : Ob} (hk : Kp (fps G) w w') (hkeep : ∀ (i : Nat) (gi : Value × List Nat), i ≠ k → G[i]? = some gi → ∀ b ∈ gi.2, w'.heap[b]? = w.heap[b]?)
    (hnd : f'.Nodup) (hb : ∀ b ∈ f', b < w'.heap.size ∧ (b ∈ f ∨ w.heap.size ≤ b)) (hor : OR w' (okG X.Z (G.set k (v, f'))) (G.set k (v, f')) o (v, f')) :
    GOK X (ob.set k o) (G.set k (v, f')) w' ∧ (∀ (i : Nat) (v' : Value) (g : List Nat), G[i]? = some (v', g) → ∃ g', (G.set k (v, f'))[i]? = some (v', g')) ∧ (∀ b ∈ fps (G.set k (v, f')), b ∈ fps G ∨ w.heap.size ≤ b) := by
  have hkl : k < G.length := (List.getElem?_eq_some_iff.1 hgk).1
  have hat : ∀ (i : Nat) (gi : Value × List Nat), (G.set k (v, f'))[i]? = some gi → (i = k ∧ gi = (v, f')) ∨ (i ≠ k ∧ G[i]? = some gi) := by
    intro i gi h
    by_cases hik : i = k
    · subst hik
      rw [List.getElem?_set_self hkl] at h
      simp only [Option.some.injEq] at h
      exact .inl ⟨rfl, h.symm⟩
    · rw [List.getElem?_set_ne (Ne.symm hik)] at h
      exact .inr ⟨hik, h⟩
  have hheads : ∀ (i : Nat) (v' : Value) (g : List Nat), G[i]? = some (v', g) → ∃ g', (G.set k (v, f'))[i]? = some (v', g') := by
    intro i v' g h
    by_cases hik : i = k
    · subst hik
      rw [hgk] at h
      simp only [Option.some.injEq, Prod.mk.injEq] at h
      exact ⟨f', by rw [List.getElem?_set_self hkl, h.1]⟩
    · exact ⟨g, by rw [List.getElem?_set_ne (Ne.symm hik)]; exact h⟩
  have hbb : ∀ b ∈ fps (G.set k (v, f')), (b ∈ fps G ∨ w.heap.size ≤ b) ∧ b < w'.heap.size := by
    intro b h
    obtain ⟨i, gi, hi, hb'⟩ := fps_get h
    rcases hat i gi hi with ⟨_, rfl⟩ | ⟨_, h3⟩
    · exact ⟨(hb b hb').2.imp (fun h => fps_mem hgk h) id, (hb b hb').1⟩
    · exact ⟨.inl (fps_mem h3 hb'), Nat.lt_of_lt_of_le (hG.lt b (fps_mem h3 hb')).1 hk.size⟩
  have hap : ∀ (i : Nat) (gi : Value × List Nat), i ≠ k → G[i]? = some gi → ∀ b ∈ gi.2, b ∉ f' := by
    intro i gi hik h b hbi hbg
    rcases (hb b hbg).2 with h' | h'
    · exact nodup_apart hG.nodup i k gi _ hik h hgk b hbi h'
    · have := (hG.lt b (fps_mem h hbi)).1; omega
  refine ⟨gok_gen hG hs0 hk (by simp [hG.len]) (nodup_of (fun i gi hi => ?_) (fun i j gi gj hij hi hj b hbi hbj => ?_)) hbb hheads (fun i o' gi h1 h2 => ?_), hheads, fun b h => (hbb b h).1⟩
  · rcases hat i gi hi with ⟨_, rfl⟩ | ⟨_, h3⟩
    · exact hnd
    · exact nodup_each hG.nodup i gi h3
  · rcases hat i gi hi with ⟨h1, rfl⟩ | ⟨h2, h3⟩
    · rcases hat j gj hj with ⟨h4, rfl⟩ | ⟨h5, h6⟩
      · omega
      · exact hap j gj h5 h6 b hbj hbi
    · rcases hat j gj hj with ⟨h4, rfl⟩ | ⟨h5, h6⟩
      · exact hap i gi h2 h3 b hbi hbj
      · exact nodup_apart hG.nodup i j gi gj hij h3 h6 b hbi hbj
  · rcases hat i gi h2 with ⟨rfl, rfl⟩ | ⟨h3, h4⟩
    · right
      rw [List.getElem?_set_self (by rw [← hG.len]; exact hkl)] at h1
      simp only [Option.some.injEq] at h1
      subst h1
      exact hor
    · left
      rw [List.getElem?_set_ne (Ne.symm h3)] at h1
      exact ⟨h1, h4, hkeep i gi h3 h4⟩

/-- What an operation has changed: the objects M alone, and new ones. -/
structure St (X : Cx) (ob' : List Ob) (G G' : Gh) (M : List Nat) (w w' : World) : Prop where
  kp : Kp (fps (pickG G M)) w w'
  gok : GOK X ob' G' w'
  hd : ∀ (k : Nat) (v : Value) (g : List Nat), G[k]? = some (v, g) → ∃ g', G'[k]? = some (v, g')
  fr : ∀ (k : Nat) (g : Value × List Nat), k ∉ M → G[k]? = some g → G'[k]? = some g
  ne : ∀ (i : Nat) (g : Value × List Nat), G'[i]? = some g → (i ∈ M ∨ G.length ≤ i) → ∀ b ∈ g.2, b ∈ fps (pickG G M) ∨ w.heap.size ≤ b
theorem St.sub {ob' : List Ob} {M : List Nat} (h : St X ob' G G' M w w') : ∀ b ∈ fps G', b ∈ fps G ∨ w.heap.size ≤ b := by
  intro b hb
  obtain ⟨i, g, hi, hb'⟩ := fps_get hb
  by_cases hm : i ∈ M ∨ G.length ≤ i
  · exact (h.ne i g hi hm b hb').imp (pick_sub b) id
  · have hn : i ∉ M := fun h => hm (.inl h)
    have hl : i < G.length := Nat.lt_of_not_le fun h => hm (.inr h)
    have := h.fr i _ hn (List.getElem?_eq_getElem hl)
    rw [this] at hi
    simp only [Option.some.injEq] at hi
    subst hi
    exact .inl (fps_mem (List.getElem?_eq_getElem hl) hb')
theorem St.kpG {ob' : List Ob} {M : List Nat} (h : St X ob' G G' M w w') : Kp (fps G) w w' := h.kp.mono (fun b hb _ => pick_sub b hb)
theorem pick_one {k : Nat} {g : Value × List Nat} (h : G[k]? = some g) {b : Nat} : b ∈ fps (pickG G [k]) ↔ b ∈ g.2 := by
  simp [pickG, fps, h]
theorem pick_out {k : Nat} (h : G.length ≤ k) : fps (pickG G [k]) = [] := by
  simp [pickG, fps, List.getElem?_eq_none h]
theorem st_new {g : Value × List Nat} {o : Ob} (hk : Kp [] w w') (hg : GOK X (ob ++ [o]) (G ++ [g]) w') (hb : ∀ b ∈ g.2, w.heap.size ≤ b) : St X (ob ++ [o]) G (G ++ [g]) [] w w' := by
  refine ⟨hk, hg, fun k v f h => ⟨f, by rw [List.getElem?_append_left (List.getElem?_eq_some_iff.1 h).1]; exact h⟩, fun k f _ h => by rw [List.getElem?_append_left (List.getElem?_eq_some_iff.1 h).1]; exact h, fun i f h hi b hbf => ?_⟩
  have hi : G.length ≤ i := hi.elim (fun h => by simp at h) id
  rw [List.getElem?_append_right hi] at h
  have := List.mem_of_getElem? h
  simp only [List.mem_singleton] at this
  subst this
  exact .inr (hb b hbf)
theorem st_app {k : Nat} {g : Value × List Nat} {o : Ob} (hk : Kp (fps (pickG G [k])) w w') (hg : GOK X (ob.set k .dead ++ [o]) (kl G k ++ [g]) w') (hb : ∀ b ∈ g.2, (∃ gk, G[k]? = some gk ∧ b ∈ gk.2) ∨ w.heap.size ≤ b) : St X (ob.set k .dead ++ [o]) G (kl G k ++ [g]) [k] w w' := by
  refine ⟨hk, hg, fun i v f h => ?_, fun i f hn h => ?_, fun i f h hi b hbf => ?_⟩
  · have hl := (List.getElem?_eq_some_iff.1 h).1
    rw [List.getElem?_append_left (by rw [kl_len]; exact hl)]
    by_cases hik : i = k
    · subst hik; exact ⟨[], kl_at h⟩
    · exact ⟨f, by rw [kl_ne hik]; exact h⟩
  · have hl := (List.getElem?_eq_some_iff.1 h).1
    rw [List.getElem?_append_left (by rw [kl_len]; exact hl), kl_ne (by simpa using hn)]
    exact h
  · by_cases hl : i < G.length
    · have hik : i = k := by rcases hi with h | h; simpa using h; omega
      rw [hik] at h hl
      rw [List.getElem?_append_left (by rw [kl_len]; exact hl), kl_at (List.getElem?_eq_getElem hl)] at h
      simp only [Option.some.injEq] at h
      subst h
      simp at hbf
    · rw [List.getElem?_append_right (by rw [kl_len]; omega)] at h
      have := List.mem_of_getElem? h
      simp only [List.mem_singleton] at this
      subst this
      rcases hb b hbf with ⟨gk, h1, h2⟩ | h
      · exact .inl ((pick_one h1).2 h2)
      · exact .inr h
theorem st_set {k : Nat} {v : Value} {f f' : List Nat} {o : Ob} (hgk : G[k]? = some (v, f)) (hk : Kp (fps (pickG G [k])) w w') (hg : GOK X (ob.set k o) (G.set k (v, f')) w') (hb : ∀ b ∈ f', b ∈ f ∨ w.heap.size ≤ b) : St X (ob.set k o) G (G.set k (v, f')) [k] w w' := by
  have hkl := (List.getElem?_eq_some_iff.1 hgk).1
  refine ⟨hk, hg, fun i v' g h => ?_, fun i g hn h => ?_, fun i g h hi b hbg => ?_⟩
  · by_cases hik : i = k
    · subst hik
      rw [hgk] at h
      simp only [Option.some.injEq, Prod.mk.injEq] at h
      exact ⟨f', by rw [List.getElem?_set_self hkl, h.1]⟩
    · exact ⟨g, by rw [List.getElem?_set_ne (Ne.symm hik)]; exact h⟩
  · rw [List.getElem?_set_ne (Ne.symm (by simpa using hn))]; exact h
  · have hik : i = k := by
      rcases hi with h' | h'
      · simpa using h'
      · have := (List.getElem?_eq_some_iff.1 h).1
        simp at this; omega
    subst hik
    rw [List.getElem?_set_self hkl] at h
    simp only [Option.some.injEq] at h
    subst h
    exact (hb b hbg).imp (fun h => (pick_one hgk).2 h) id
theorem St.nil {ob' : List Ob} {k : Nat} (h : St X ob' G G' [k] w w') (hk : G.length ≤ k) : St X ob' G G' [] w w' := by
  have e := pick_out (G := G) hk
  refine ⟨by have := h.kp; rw [e] at this; exact this, h.gok, h.hd, fun i g _ hi => h.fr i g (by simp; intro e2; subst e2; have := (List.getElem?_eq_some_iff.1 hi).1; omega) hi, fun i g hi hm b hb => ?_⟩
  have := h.ne i g hi (.inr (hm.elim (fun h => by simp at h) id)) b hb
  rw [e] at this
  exact .inr (this.elim (fun h => by simp at h) id)
/-- What an operation does that changes the world. -/
def Sto (P : Program) (X : Cx) (tm : Tm) (ob : List Ob) (M : List Nat) (ob' : List Ob) (o : Oper) (av : AV) : Prop :=
  ∀ (a : Act) (w : World) (G : Gh), X.w0.heap.size ≤ w.heap.size → GOK X ob G w → (∀ x av, rd tm x = some av → VR w (okG X.Z G) G av (a.eval x)) →
    ∃ v w' G', (execOp a.eval o).run P w = .ok (.value v) w' ∧ St X ob' G G' M w w' ∧ VR w' (okG X.Z G') G' av v
/-- .. that yields nothing. -/
def Sto0 (P : Program) (X : Cx) (tm : Tm) (ob : List Ob) (M : List Nat) (ob' : List Ob) (o : Oper) : Prop :=
  ∀ (a : Act) (w : World) (G : Gh), X.w0.heap.size ≤ w.heap.size → GOK X ob G w → (∀ x av, rd tm x = some av → VR w (okG X.Z G) G av (a.eval x)) →
    ∃ w' G', (execOp a.eval o).run P w = .ok .skip w' ∧ St X ob' G G' M w w'
/-- An operation that changes the world, and yields a value. -/
theorem ostep {ops : Array Oper} {o : Oper} {rest : List Oper} {d : Nat} {av : AV} {ob' : List Ob} (hw : Wn ops o tm) (hN : d < X.N) (hd : o.dst = some d)
    (h : ∀ (a : Act) (w : World) (G : Gh), X.w0.heap.size ≤ w.heap.size → GOK X ob G w → (∀ x av, rd tm x = some av → VR w (okG X.Z G) G av (a.eval x)) →
      ∃ v w' G', (execOp a.eval o).run P w = .ok (.value v) w' ∧ Kp (fps G) w w' ∧ GOK X ob' G' w' ∧ (∀ (k : Nat) (v : Value) (g : List Nat), G[k]? = some (v, g) → ∃ g', G'[k]? = some (v, g')) ∧
        (∀ b ∈ fps G', b ∈ fps G ∨ w.heap.size ≤ b) ∧ VR w' (okG X.Z G') G' av v)
    (hr : OV P X ops Q rest ((d, av) :: tm) ob') : OV P X ops Q (o :: rest) tm ob :=
  orun hw (fun a w hs => by
    obtain ⟨G, hG, hv⟩ := hs.ex
    obtain ⟨v, w', G', h1, h2, h3, h4, h5, h6⟩ := h a w G hs.kp.size hG (fun x av hx => rd_ok hv hx)
    exact ⟨v, w', h1, by rw [hd]; exact sim_step hs hG hv h2 h3 h4 h5 hN h6⟩) hr
/-- .. and yields none. -/
theorem ostep0 {ops : Array Oper} {o : Oper} {rest : List Oper} {ob' : List Ob} (hw : Wn ops o tm) (hd : o.dst = none)
    (h : ∀ (a : Act) (w : World) (G : Gh), X.w0.heap.size ≤ w.heap.size → GOK X ob G w → (∀ x av, rd tm x = some av → VR w (okG X.Z G) G av (a.eval x)) →
      ∃ w' G', (execOp a.eval o).run P w = .ok .skip w' ∧ Kp (fps G) w w' ∧ GOK X ob' G' w' ∧ (∀ (k : Nat) (v : Value) (g : List Nat), G[k]? = some (v, g) → ∃ g', G'[k]? = some (v, g')) ∧
        (∀ b ∈ fps G', b ∈ fps G ∨ w.heap.size ≤ b))
    (hr : OV P X ops Q rest tm ob') : OV P X ops Q (o :: rest) tm ob :=
  orun0 hw (fun a w hs => by
    obtain ⟨G, hG, hv⟩ := hs.ex
    obtain ⟨w', G', h1, h2, h3, h4, h5⟩ := h a w G hs.kp.size hG (fun x av hx => rd_ok hv hx)
    exact ⟨w', h1, by rw [hd]; exact sim_step0 hs hG hv h2 h3 h4 h5⟩) hr

theorem osto {ops : Array Oper} {o : Oper} {rest : List Oper} {d : Nat} {av : AV} {ob' : List Ob} {M : List Nat} (hw : Wn ops o tm) (hN : d < X.N) (hd : o.dst = some d) (h : Sto P X tm ob M ob' o av)
    (hr : OV P X ops Q rest ((d, av) :: tm) ob') : OV P X ops Q (o :: rest) tm ob :=
  ostep hw hN hd (fun a w G h1 h2 h3 => by
    obtain ⟨v, w', G', h4, h5, h6⟩ := h a w G h1 h2 h3
    exact ⟨v, w', G', h4, h5.kpG, h5.gok, h5.hd, h5.sub, h6⟩) hr
theorem osto0 {ops : Array Oper} {o : Oper} {rest : List Oper} {ob' : List Ob} {M : List Nat} (hw : Wn ops o tm) (hd : o.dst = none) (h : Sto0 P X tm ob M ob' o)
    (hr : OV P X ops Q rest tm ob') : OV P X ops Q (o :: rest) tm ob :=
  ostep0 hw hd (fun a w G h1 h2 h3 => by
    obtain ⟨w', G', h4, h5⟩ := h a w G h1 h2 h3
    exact ⟨w', G', h4, h5.kpG, h5.gok, h5.hd, h5.sub⟩) hr

/-- A type's zero, cell by cell. -/
def csts : List Value → Option (List AV)
  | [] => some []
  | v :: vs => match cst v, csts vs with
    | some a, some as => some (a :: as)
    | _, _ => none
theorem csts_ok : ∀ {vs : List Value} {as : List AV}, csts vs = some as → ∀ (w : World) (ok : Nat → Prop) (G : Gh), VRs w ok G as vs ∧ ∀ u ∈ vs, u.oneCell' = true
  | [], as, h, w, ok, G => by simp only [csts, Option.some.injEq] at h; subst h; exact ⟨rfl, by simp⟩
  | v :: vs, as, h, w, ok, G => by
    simp only [csts] at h
    split at h
    · rename_i a as' h1 h2
      simp only [Option.some.injEq] at h
      subst h
      obtain ⟨h3, h4⟩ := csts_ok h2 w ok G
      refine ⟨⟨v, vs, rfl, cst_ok h1 ok G, h3⟩, fun u hu => ?_⟩
      rcases List.mem_cons.1 hu with rfl | hu
      · unfold cst at h1
        split at h1 <;> first | rfl | cases h1
      · exact h4 u hu
    · cases h
def zinfo (P : Program) (t : TypeId) : Option (List AV) :=
  match P.info? t with
  | some i => match i.zero with
    | some z => csts z.cells.toList
    | none => none
  | none => none
theorem zinfo_ok {t : TypeId} {zs : List AV} (h : zinfo P t = some zs) : ∃ z, (∀ w : World, (zeroValue t).run P w = .ok z w) ∧ csts z.cells.toList = some zs := by
  unfold zinfo at h
  split at h
  · rename_i i hi
    split at h
    · rename_i z hz
      exact ⟨z, fun w => by simp [zeroValue, typeInfo, hi, hz], h⟩
    · cases h
  · cases h

theorem new_box (hG : GOK X ob G w) (hs0 : X.w0.heap.size ≤ w.heap.size) {vs : List Value} {cells : List AV} {t : TypeId} (hv : VRs w (okG X.Z G) G cells vs) (h1 : ∀ u ∈ vs, u.oneCell' = true) :
    ∃ G', St X (ob ++ [.box t cells]) G G' [] w (w.alloc (.cells ⟨vs⟩ t)) ∧ VR (w.alloc (.cells ⟨vs⟩ t)) (okG X.Z G') G' (.bp ob.length 0) (.pointer (some ⟨w.heap.size, 0, none⟩)) := by
  have hnew : (w.alloc (.cells ⟨vs⟩ t)).heap[w.heap.size]? = some (.cells ⟨vs⟩ t (0, 0)) := by
    show (w.heap.push _)[w.heap.size]? = _
    simp
  obtain ⟨g1, g2, g3⟩ := gok_new (w' := w.alloc (.cells ⟨vs⟩ t)) hG hs0 (g := (.pointer (some ⟨w.heap.size, 0, none⟩), [w.heap.size])) (o := .box t cells) (Kp.alloc [] w _) (by simp) (by simp) (by
    simp only [OR]
    refine ⟨_, vs, rfl, hnew, VRs_mv' ⟨by simp, fun b hb hlt => ⟨⟨fun h => ?_, hb.2⟩, (Kp.alloc [] w _).block b hlt (by simp)⟩, fun k v g hg => ⟨g, by rw [List.getElem?_append_left (List.getElem?_eq_some_iff.1 hg).1]; exact hg⟩⟩ hv, h1⟩
    obtain ⟨i, g, hi, hb'⟩ := fps_get h
    rcases Nat.lt_or_ge i G.length with h' | h'
    · rw [List.getElem?_append_left h'] at hi
      exact hb.1 (fps_mem hi hb')
    · rw [List.getElem?_append_right h'] at hi
      have : g = (.pointer (some ⟨w.heap.size, 0, none⟩), [w.heap.size]) := by
        have := List.mem_of_getElem? hi
        simpa using this
      subst this
      simp at hb'
      omega)
  refine ⟨_, st_new (Kp.alloc [] w _) g1 (by simp), ?_⟩
  simp only [VR]
  exact ⟨w.heap.size, [w.heap.size], by rw [← hG.len, List.getElem?_append_right (Nat.le_refl _)]; simp, rfl⟩

/-- Values of one cell. -/
def AV.one (ob : List Ob) : AV → Bool
  | .z => false
  | .agg _ => false
  | .tup _ => false
  | .own k => match ob[k]? with
    | some (.arr ..) => true
    | some (.box ..) => true
    | some .hed => true
    | _ => false
  | _ => true
def AV.ones (ob : List Ob) : List AV → Bool
  | [] => true
  | a :: as => a.one ob && AV.ones ob as
theorem one_ok (hG : GOK X ob G w) {ok : Nat → Prop} {av : AV} {v : Value} (h1 : av.one ob = true) (h : VR w ok G av v) : v.oneCell' = true ∧ v.cells = #[v] := by
  cases av with
  | z => cases h1
  | nl => simp only [VR] at h; subst h; exact ⟨rfl, rfl⟩
  | np => simp only [VR] at h; subst h; exact ⟨rfl, rfl⟩
  | c t x =>
    simp only [VR] at h
    have := RS_one t x v h
    refine ⟨this, ?_⟩
    cases v <;> first | rfl | cases this
  | own k =>
    simp only [VR] at h
    obtain ⟨g, hg, rfl⟩ := h
    simp only [AV.one] at h1
    split at h1
    · rename_i d e ts xs ho
      obtain ⟨inner, hr⟩ := or_head (hG.ob k _ g ho hg)
      obtain ⟨A, c, he, _⟩ := own_form hr
      rw [he]; exact ⟨rfl, rfl⟩
    · rename_i t cells ho
      have := hG.ob k _ g ho hg
      simp only [OR] at this
      obtain ⟨b, vs, rfl, _⟩ := this
      exact ⟨rfl, rfl⟩
    · rename_i ho
      have := hG.ob k _ g ho hg
      simp only [OR] at this
      exact this.2
    · cases h1
  | agg xs => cases h1
  | rp ts x => simp only [VR] at h; obtain ⟨b, p, cs, rfl, _⟩ := h; exact ⟨rfl, rfl⟩
  | bp k o => simp only [VR] at h; obtain ⟨b, f, _, rfl⟩ := h; exact ⟨rfl, rfl⟩
  | ep k i sz o => simp only [VR] at h; obtain ⟨b, n, c, f, _, rfl⟩ := h; exact ⟨rfl, rfl⟩
  | sub k lo n sz => simp only [VR] at h; rcases h with ⟨_, _, A, c, rfl⟩ | ⟨b, n, c, f, _, rfl⟩ <;> exact ⟨rfl, rfl⟩
  | bs k n => simp only [VR] at h; obtain ⟨b, f, _, rfl⟩ := h; exact ⟨rfl, rfl⟩
  | fn g cs => simp only [VR] at h; obtain ⟨vs, rfl, _⟩ := h; exact ⟨rfl, rfl⟩
  | tup xs => cases h1
theorem ones_ok (hG : GOK X ob G w) {ok : Nat → Prop} : ∀ {as : List AV} {vs : List Value}, AV.ones ob as = true → VRs w ok G as vs → ∀ u ∈ vs, u.oneCell' = true
  | [], vs, _, h => by simp only [VRs] at h; subst h; simp
  | a :: as, vs, h1, h => by
    simp only [AV.ones, Bool.and_eq_true] at h1
    simp only [VRs] at h
    obtain ⟨v, vs', rfl, h2, h3⟩ := h
    intro u hu
    rcases List.mem_cons.1 hu with rfl | hu
    · exact (one_ok hG h1.1 h2).1
    · exact ones_ok hG h1.2 h3 u hu

variable {ops : Array Oper} {rest : List Oper} {d : Nat} {ty : TypeId} {pos : String} {after : Array Edge} {gd : Option (Nat × Bool)}
/-- new -/
theorem salloc {e : TypeId} {zs : List AV} (hz : zinfo P e = some zs) :
    Sto P X tm ob [] (ob ++ [.box e zs]) ⟨some d, .alloc e, ty, pos, after, gd⟩ (.bp ob.length 0) := fun a w G hs0 hG hv => by
    obtain ⟨z, h1, h2⟩ := zinfo_ok hz
    obtain ⟨h3, h4⟩ := csts_ok h2 w (okG X.Z G) G
    obtain ⟨G', g1, g4⟩ := new_box (t := e) hG hs0 h3 h4
    refine ⟨_, _, G', ?_, g1, g4⟩
    simp [execOp, Instr.alloc, h1, newVar, newRow, newObj, Sem.run]
theorem oalloc {e : TypeId} {zs : List AV} (hw : Wn ops ⟨some d, .alloc e, ty, pos, after, gd⟩ tm) (hN : d < X.N) (hz : zinfo P e = some zs)
    (hr : OV P X ops Q rest ((d, .bp ob.length 0) :: tm) (ob ++ [.box e zs])) : OV P X ops Q (⟨some d, .alloc e, ty, pos, after, gd⟩ :: rest) tm ob :=
  osto hw hN rfl (salloc hz) hr
/-- a variable with its value: one cell -/
theorem sbox {e : TypeId} {x : Operand} {av : AV} (hx : rd tm x = some av) (h1 : av.one ob = true) :
    Sto P X tm ob [] (ob ++ [.box e [av]]) ⟨some d, .box e x, ty, pos, after, gd⟩ (.bp ob.length 0) := fun a w G hs0 hG hv => by
    have h2 := hv x av hx
    obtain ⟨h3, h4⟩ := one_ok hG h1 h2
    obtain ⟨G', g1, g4⟩ := new_box (t := e) (vs := [a.eval x]) (cells := [av]) hG hs0 ⟨_, _, rfl, h2, rfl⟩ (by simpa using h3)
    refine ⟨_, _, G', ?_, g1, g4⟩
    simp [execOp, Instr.box, newVar, newRow, newObj, Sem.run, h4]
theorem obox {e : TypeId} {x : Operand} {av : AV} (hw : Wn ops ⟨some d, .box e x, ty, pos, after, gd⟩ tm) (hN : d < X.N) (hx : rd tm x = some av) (h1 : av.one ob = true)
    (hr : OV P X ops Q rest ((d, .bp ob.length 0) :: tm) (ob ++ [.box e [av]])) : OV P X ops Q (⟨some d, .box e x, ty, pos, after, gd⟩ :: rest) tm ob :=
  osto hw hN rfl (sbox hx h1) hr
/-- .. several -/
theorem sboxn {e : TypeId} {x : Operand} {avs : List AV} (hx : rd tm x = some (.agg avs)) (h1 : AV.ones ob avs = true) :
    Sto P X tm ob [] (ob ++ [.box e avs]) ⟨some d, .box e x, ty, pos, after, gd⟩ (.bp ob.length 0) := fun a w G hs0 hG hv => by
    have h2 := hv x _ hx
    simp only [VR] at h2
    obtain ⟨vs, h2, h3⟩ := h2
    obtain ⟨G', g1, g4⟩ := new_box (t := e) hG hs0 h3 (ones_ok hG h1 h3)
    refine ⟨_, _, G', ?_, g1, g4⟩
    simp [execOp, Instr.box, newVar, newRow, newObj, Sem.run, h2, Value.cells]
theorem oboxn {e : TypeId} {x : Operand} {avs : List AV} (hw : Wn ops ⟨some d, .box e x, ty, pos, after, gd⟩ tm) (hN : d < X.N) (hx : rd tm x = some (.agg avs)) (h1 : AV.ones ob avs = true)
    (hr : OV P X ops Q rest ((d, .bp ob.length 0) :: tm) (ob ++ [.box e avs])) : OV P X ops Q (⟨some d, .box e x, ty, pos, after, gd⟩ :: rest) tm ob :=
  osto hw hN rfl (sboxn hx h1) hr
/-- Cells written. -/
def putl {α : Type} (l : List α) (p : Nat) (vs : List α) : List α := l.take p ++ vs ++ l.drop (p + vs.length)
theorem putl_len {α : Type} {l : List α} {p : Nat} {vs : List α} (h : p + vs.length ≤ l.length) : (putl l p vs).length = l.length := by
  simp [putl]; omega
theorem putl_get {α : Type} {l : List α} {p : Nat} {vs : List α} (h : p + vs.length ≤ l.length) (q : Nat) : (putl l p vs)[q]? = if q < p then l[q]? else if q < p + vs.length then vs[q - p]? else l[q]? := by
  unfold putl
  have h1 : (l.take p).length = p := by simp; omega
  by_cases hq : q < p
  · rw [if_pos hq, List.append_assoc, List.getElem?_append_left (by omega), List.getElem?_take_of_lt hq]
  · rw [if_neg hq]
    by_cases hq2 : q < p + vs.length
    · rw [if_pos hq2, List.getElem?_append_left (by simp; omega), List.getElem?_append_right (by omega), h1]
    · rw [if_neg hq2, List.getElem?_append_right (by simp; omega), List.getElem?_drop]
      congr 1
      simp; omega
theorem VRs_putl {ok : Nat → Prop} : ∀ {as : List AV} {vs : List Value} (p : Nat) {bs : List AV} {us : List Value}, VRs w ok G as vs → VRs w ok G bs us → p + bs.length ≤ as.length → VRs w ok G (putl as p bs) (putl vs p us) := by
  intro as vs p bs us h1 h2 h3
  have hl1 := VRs_len h1
  have hl2 := VRs_len h2
  unfold putl
  rw [hl2]
  exact VRs_app (VRs_app (VRs_take p h1) h2) (VRs_drop _ h1)
theorem run_storeAt_put {b off : Nat} {t e : TypeId} {cur : Array Value} {v : Value} {vs : List Value} (hb : w.heap[b]? = some (.cells cur e (0, 0))) (hvs : v.cells = ⟨vs⟩) (hl : off + vs.length ≤ cur.size) (h1 : ∀ u ∈ vs, u.oneCell' = true)
    (hsz : ∀ w : World, (sizeOf t).run P w = .ok vs.length w) : (Instr.storeAt t (.pointer (some ⟨b, off, none⟩)) v).run P w = .ok () (w.setRow b (putl cur.toList off vs).toArray) := by
  have := run_storeCells_at (P := P) b off e vs 0 cur w hb (by omega) h1
  simp only [Nat.add_zero] at this
  simp only [Instr.storeAt, Instr.sureAddr, storeVar, Sem.run_bind, Sem.run_pure, Result.andThen_ok, hsz, hvs, List.size_toArray, ne_eq, not_true, if_false, putl]
  exact this
theorem kp_setRow {b : Nat} {cs : Array Value} : Kp [b] w (w.setRow b cs) := ⟨rfl, rfl, rfl, by simp, fun k _ hk => setRow_other w b k cs (by simpa using hk)⟩

/-- A store into a variable. -/
theorem stb_sim {t : TypeId} {k off : Nat} {bt : TypeId} {cells : List AV} {v : Value} {as : List AV} {us : List Value} {A : Value} (hs0 : X.w0.heap.size ≤ w.heap.size) (hG : GOK X ob G w) (ho : ob[k]? = some (.box bt cells)) (hA : VR w (okG X.Z G) G (.bp k off) A)
    (hn : off + as.length ≤ cells.length) (hsz : ∀ w : World, (sizeOf t).run P w = .ok as.length w) (h1 : ∀ u ∈ us, u.oneCell' = true) (hc : v.cells = ⟨us⟩) (hv : VRs w (okG X.Z G) G as us) :
    ∃ w' G', (Instr.storeAt t A v).run P w = .ok () w' ∧ St X (ob.set k (.box bt (putl cells off as))) G G' [k] w w' := by
  simp only [VR] at hA
  obtain ⟨b, f, hg, rfl⟩ := hA
  have hor := hG.ob k _ _ ho hg
  simp only [OR] at hor
  obtain ⟨b', vs, he, hh, hvs, hone⟩ := hor
  simp only [Prod.mk.injEq, Value.pointer.injEq, Option.some.injEq, Addr.mk.injEq, and_true] at he
  obtain ⟨rfl, rfl⟩ := he
  have hl := VRs_len hvs
  have hlu := VRs_len hv
  have hK : Kp (fps G) w (w.setRow b (putl vs off us).toArray) := kp_setRow.mono (fun x hx _ => by simp only [List.mem_singleton] at hx; subst hx; exact fps_mem hg (by simp))
  have hkeep : ∀ (i : Nat) (gi : Value × List Nat), i ≠ k → G[i]? = some gi → ∀ x ∈ gi.2, (w.setRow b (putl vs off us).toArray).heap[x]? = w.heap[x]? := fun i gi hik hi x hx =>
    setRow_other w b x _ (fun e => nodup_apart hG.nodup i k gi _ hik hi hg x hx (by simp [e]))
  have hsub : ∀ x ∈ fps (G.set k (.pointer (some ⟨b, 0, none⟩), [b])), x ∈ fps G ∨ w.heap.size ≤ x := by
    have : G.set k (.pointer (some ⟨b, 0, none⟩), [b]) = G := by
      apply List.ext_getElem?
      intro i
      by_cases hik : i = k
      · subst hik; rw [List.getElem?_set_self (List.getElem?_eq_some_iff.1 hg).1, hg]
      · rw [List.getElem?_set_ne (Ne.symm hik)]
    rw [this]
    exact fun x hx => .inl hx
  obtain ⟨g1, g2, g3⟩ := gok_set hG hs0 hg (o := .box bt (putl cells off as)) hK hkeep (by simp) (fun x hx => ⟨by simp only [List.mem_singleton] at hx; subst hx; rw [setRow_size]; exact (hG.lt x (fps_mem hg (by simp))).1, .inl hx⟩) (by
    simp only [OR]
    refine ⟨b, putl vs off us, rfl, setRow_heap w b _ _ _ _ hh, ?_, ?_⟩
    · have m := mv_step (X := X) hK (G' := G.set k (.pointer (some ⟨b, 0, none⟩), [b])) (fun i v' g h => by
        by_cases hik : i = k
        · subst hik
          rw [hg] at h
          simp only [Option.some.injEq, Prod.mk.injEq] at h
          exact ⟨[b], by rw [List.getElem?_set_self (List.getElem?_eq_some_iff.1 hg).1, h.1]⟩
        · exact ⟨g, by rw [List.getElem?_set_ne (Ne.symm hik)]; exact h⟩) hsub
      exact VRs_putl off (VRs_mv' m hvs) (VRs_mv' m hv) hn
    · intro u hu
      unfold putl at hu
      rcases List.mem_append.1 hu with hu | hu
      · rcases List.mem_append.1 hu with hu | hu
        · exact hone u (List.mem_of_mem_take hu)
        · exact h1 u hu
      · exact hone u (List.mem_of_mem_drop hu))
  exact ⟨_, _, run_storeAt_put hh hc (by simp; omega) h1 (by rw [hlu]; exact hsz), st_set hg (kp_setRow.mono (fun x hx _ => by simp only [List.mem_singleton] at hx; subst hx; exact (pick_one hg).2 (by simp))) g1 (fun x hx => .inl hx)⟩
theorem sst {t : TypeId} {p x : Operand} {k off : Nat} {bt : TypeId} {cells : List AV} {av : AV} {ag : Bool} (hp : rd tm p = some (.bp k off)) (ho : ob[k]? = some (.box bt cells)) (hx : rd tm x = some av)
    (h1 : av.one ob = true) (hn : off + 1 ≤ cells.length) (ht : TI P t ag 1) :
    Sto0 P X tm ob [k] (ob.set k (.box bt (putl cells off [av]))) ⟨none, .store t p x, ty, pos, after, gd⟩ := fun a w G hs0 hG hv => by
    obtain ⟨h3, h4⟩ := one_ok hG h1 (hv x _ hx)
    obtain ⟨w', G', g0, g⟩ := stb_sim (P := P) (t := t) (as := [av]) (us := [a.eval x]) (v := a.eval x) hs0 hG ho (hv p _ hp) hn ht.sz (by simpa using h3) h4 ⟨_, _, rfl, hv x _ hx, rfl⟩
    exact ⟨w', G', by simp only [execOp, Sem.run_bind, g0, Result.andThen_ok, Sem.run_pure], g⟩
theorem ost {t : TypeId} {p x : Operand} {k off : Nat} {bt : TypeId} {cells : List AV} {av : AV} {ag : Bool} (hw : Wn ops ⟨none, .store t p x, ty, pos, after, gd⟩ tm) (hp : rd tm p = some (.bp k off)) (ho : ob[k]? = some (.box bt cells)) (hx : rd tm x = some av)
    (h1 : av.one ob = true) (hn : off + 1 ≤ cells.length) (ht : TI P t ag 1)
    (hr : OV P X ops Q rest tm (ob.set k (.box bt (putl cells off [av])))) : OV P X ops Q (⟨none, .store t p x, ty, pos, after, gd⟩ :: rest) tm ob :=
  osto0 hw rfl (sst hp ho hx h1 hn ht) hr
theorem sstn {t : TypeId} {p x : Operand} {k off : Nat} {bt : TypeId} {cells : List AV} {as : List AV} {ag : Bool} (hp : rd tm p = some (.bp k off)) (ho : ob[k]? = some (.box bt cells)) (hx : rd tm x = some (.agg as))
    (h1 : AV.ones ob as = true) (hn : off + as.length ≤ cells.length) (ht : TI P t ag as.length) :
    Sto0 P X tm ob [k] (ob.set k (.box bt (putl cells off as))) ⟨none, .store t p x, ty, pos, after, gd⟩ := fun a w G hs0 hG hv => by
    have h2 := hv x _ hx
    simp only [VR] at h2
    obtain ⟨us, h2, h3⟩ := h2
    obtain ⟨w', G', g0, g⟩ := stb_sim (P := P) (t := t) (v := a.eval x) hs0 hG ho (hv p _ hp) hn ht.sz (ones_ok hG h1 h3) (by rw [h2]; rfl) h3
    exact ⟨w', G', by simp only [execOp, Sem.run_bind, g0, Result.andThen_ok, Sem.run_pure], g⟩
theorem ostn {t : TypeId} {p x : Operand} {k off : Nat} {bt : TypeId} {cells : List AV} {as : List AV} {ag : Bool} (hw : Wn ops ⟨none, .store t p x, ty, pos, after, gd⟩ tm) (hp : rd tm p = some (.bp k off)) (ho : ob[k]? = some (.box bt cells)) (hx : rd tm x = some (.agg as))
    (h1 : AV.ones ob as = true) (hn : off + as.length ≤ cells.length) (ht : TI P t ag as.length)
    (hr : OV P X ops Q rest tm (ob.set k (.box bt (putl cells off as)))) : OV P X ops Q (⟨none, .store t p x, ty, pos, after, gd⟩ :: rest) tm ob :=
  osto0 hw rfl (sstn hp ho hx h1 hn ht) hr
end
end Go.Proofs.YtifpekpmnlcmoaaE
