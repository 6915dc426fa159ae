/- The engine, part 9: a call by its contract (the rule). -/
import Derived.Test.YtifpekpmnlcmoaaE8
set_option linter.unusedVariables false
set_option linter.unusedSimpArgs false
namespace Go.Proofs.YtifpekpmnlcmoaaE
open Go Go.RowKit

/-- The objects behind a call. -/
def newob (ob : List Ob) (ks : List Nat) (res : List Ob) : List Ob :=
  repl ob ks ((res.take ks.length).map (Ob.ren (gf ob.length ks))) ++ (res.drop ks.length).map (Ob.ren (gf ob.length ks))

theorem fps_get {G : Gh} {b : Nat} (h : b ∈ fps G) : ∃ (i : Nat) (g : Value × List Nat), G[i]? = some g ∧ b ∈ g.2 := by
  obtain ⟨g, hg, hb⟩ := List.mem_flatMap.1 h
  obtain ⟨i, hi⟩ := List.getElem?_of_mem hg
  exact ⟨i, g, hi, hb⟩

theorem VRs_app {w : World} {ok : Nat → Prop} {G : Gh} : ∀ {as bs : List AV} {us vs : List Value}, VRs w ok G as us → VRs w ok G bs vs → VRs w ok G (as ++ bs) (us ++ vs)
  | [], bs, us, vs, h1, h2 => by simp only [VRs] at h1; subst h1; exact h2
  | a :: as, bs, us, vs, h1, h2 => by
    simp only [VRs] at h1
    obtain ⟨v, us', rfl, h3, h4⟩ := h1
    simp only [List.cons_append, VRs]
    exact ⟨v, _, rfl, h3, VRs_app h4 h2⟩
theorem gf_at {n : Nat} {ks : List Nat} {i k : Nat} (h : ks[i]? = some k) : gf n ks i = k := by
  have hil := (List.getElem?_eq_some_iff.1 h).1
  simp only [gf, if_pos hil, List.getD_eq_getElem?_getD, h, Option.getD_some]
theorem repl_cases {α : Type} {l : List α} {ks : List Nat} {rs : List α} {k : Nat} {r : α} (hn : ks.Nodup) (hl : rs.length = ks.length) (hks : ∀ k ∈ ks, k < l.length) (h : (repl l ks rs)[k]? = some r) :
    (k ∉ ks ∧ l[k]? = some r) ∨ ∃ i : Nat, ks[i]? = some k ∧ rs[i]? = some r := by
  by_cases hk : k ∈ ks
  · obtain ⟨i, hi⟩ := List.getElem?_of_mem hk
    have hil : i < rs.length := by rw [hl]; exact (List.getElem?_eq_some_iff.1 hi).1
    have := repl_at ks l rs i k rs[i] hn hi (List.getElem?_eq_getElem hil) (hks k hk)
    rw [h] at this
    cases this
    exact .inr ⟨i, hi, List.getElem?_eq_getElem hil⟩
  · rw [repl_ne ks l rs k hk] at h
    exact .inl ⟨hk, h⟩

section
variable {P : Program} {X : Cx} {Q : Exit → Act → World → Prop} {tm : Tm} {ob : List Ob} {a : Act} {w : World}

theorem nodup_idx {l : List Nat} (h : l.Nodup) {i j k : Nat} (hi : l[i]? = some k) (hj : l[j]? = some k) : i = j := by
  obtain ⟨h1, h2⟩ := List.getElem?_eq_some_iff.1 hi
  obtain ⟨h3, h4⟩ := List.getElem?_eq_some_iff.1 hj
  exact (List.getElem_inj h).1 (h2.trans h4.symm)

/-- The blocks that the callee must leave out of what it shares. -/
def zc (X : Cx) (G : Gh) (ks vs : List Nat) : List Nat := X.Z ++ (fps G).filter (fun b => !(fps (pickG G ks)).contains b && !(fps (pickG G vs)).contains b)

theorem call_in {G : Gh} (hG : GOK X ob G w) (hs0 : X.w0.heap.size ≤ w.heap.size) {ks vs : List Nat} {obc : List Ob} (hkn : ks.Nodup) (hap : ∀ k ∈ ks, k ∉ vs) (ho : Wo ob (kf ob.length ks) ks obc) :
    GOK ⟨w, fps (pickG G ks), (pickG G ks).map (·.1), 0, zc X G ks vs⟩ obc (pickG G ks) w ∧
    Mv w w (okG X.Z G) (okG (zc X G ks vs) (pickG G ks)) G (pickG G ks) (kf ob.length ks) ∧
    (∀ k ∈ vs, ∀ g, G[k]? = some g → ∀ b ∈ g.2, okG (zc X G ks vs) (pickG G ks) b) ∧ (∀ (i k : Nat), ks[i]? = some k → k < G.length) := by
  obtain ⟨hl, hget⟩ := wo_get ho
  have hlt : ∀ (i k : Nat), ks[i]? = some k → k < G.length := by
    intro i k hi
    have hil : i < obc.length := by rw [hl]; exact (List.getElem?_eq_some_iff.1 hi).1
    obtain ⟨k', hk', hob⟩ := hget i _ (List.getElem?_eq_getElem hil)
    rw [hi] at hk'
    cases hk'
    rw [hG.len]
    exact (List.getElem?_eq_some_iff.1 hob).1
  have hzc : ∀ b, b ∉ fps G → b ∉ X.Z → b ∉ zc X G ks vs := fun b h1 h2 h => by
    rcases List.mem_append.1 h with h | h
    · exact h2 h
    · exact h1 (List.mem_filter.1 h).1
  have m : Mv w w (okG X.Z G) (okG (zc X G ks vs) (pickG G ks)) G (pickG G ks) (kf ob.length ks) := by
    refine ⟨Nat.le_refl _, fun b hb _ => ⟨⟨fun h => hb.1 (pick_sub b h), hzc b hb.1 hb.2⟩, rfl⟩, fun k v g hg => ?_⟩
    unfold kf at hg
    rw [List.getD_eq_getElem?_getD] at hg
    cases hk : ks[k]? with
    | none =>
      rw [hk, Option.getD_none, ← hG.len] at hg
      simp at hg
    | some j =>
      rw [hk, Option.getD_some] at hg
      exact ⟨g, by rw [pick_get hk (hlt k j hk)]; exact hg⟩
  refine ⟨⟨by simp [pickG, hl], pick_nodup hG.nodup hkn (fun k hk => ?_), fun b hb => ⟨(hG.lt b (pick_sub b hb)).1, .inl hb⟩, fun b hb h => ?_, fun b hb => ?_, fun k v hv => ?_, fun i o g hi hg => ?_⟩, m, fun k hk g hg b hb => ?_, hlt⟩
  · obtain ⟨i, hi⟩ := List.getElem?_of_mem hk
    exact hlt i k hi
  · rcases List.mem_append.1 h with h | h
    · exact hG.z b (pick_sub b hb) h
    · have := (List.mem_filter.1 h).2
      simp only [Bool.and_eq_true, Bool.not_eq_true', List.contains_eq_mem, decide_eq_false_iff_not] at this
      exact this.1 hb
  · rcases List.mem_append.1 hb with h | h
    · exact Nat.lt_of_lt_of_le (hG.zl b h) hs0
    · exact (hG.lt b (List.mem_filter.1 h).1).1
  · simp only [List.getElem?_map, Option.map_eq_some_iff] at hv
    obtain ⟨⟨u, g⟩, h1, rfl⟩ := hv
    exact ⟨g, h1⟩
  · obtain ⟨k, hk, hob⟩ := hget i o hi
    rw [pick_get hk (hlt i k hk)] at hg
    exact OR_mv m (fun b _ => rfl) (hG.ob k _ g hob hg)
  · have hks : b ∉ fps (pickG G ks) := by
      intro h
      obtain ⟨i, g', hi, hb'⟩ := fps_get h
      have hil : i < ks.length := by have := (List.getElem?_eq_some_iff.1 hi).1; simpa [pickG] using this
      have hki := List.getElem?_eq_getElem hil
      rw [pick_get hki (hlt i _ hki)] at hi
      refine nodup_apart hG.nodup k ks[i] g g' (fun e => hap ks[i] (List.getElem_mem hil) (e ▸ hk)) hg hi b hb hb'
    refine ⟨hks, fun h => ?_⟩
    rcases List.mem_append.1 h with h | h
    · exact hG.z b (fps_mem hg hb) h
    · have := (List.mem_filter.1 h).2
      simp only [Bool.and_eq_true, Bool.not_eq_true', List.contains_eq_mem, decide_eq_false_iff_not] at this
      obtain ⟨i, hi⟩ := List.getElem?_of_mem hk
      exact this.2 (fps_mem (k := i) (by rw [pick_get hi (List.getElem?_eq_some_iff.1 hg).1]; exact hg) hb)

theorem call_out {G : Gh} (hG : GOK X ob G w) (hs0 : X.w0.heap.size ≤ w.heap.size) {ks vs : List Nat} (hkn : ks.Nodup) (hlt : ∀ (i k : Nat), ks[i]? = some k → k < G.length) {r : AV × List Ob} (hlen : ks.length ≤ r.2.length)
    (hfree : vs = [] ∨ (r.1.free = true ∧ ∀ o ∈ r.2, o.free = true)) {w' : World} {G' : Gh} {v : Value} (hk : Kp (fps (pickG G ks)) w w')
    (hG' : GOK ⟨w, fps (pickG G ks), (pickG G ks).map (·.1), 0, zc X G ks vs⟩ r.2 G' w') (hr : VR w' (okG (zc X G ks vs) G') G' r.1 v) :
    ∃ Gn : Gh, GOK X (newob ob ks r.2) Gn w' ∧ VR w' (okG X.Z Gn) Gn (r.1.ren (gf ob.length ks)) v ∧
      (∀ (k : Nat) (v : Value) (g : List Nat), G[k]? = some (v, g) → ∃ g', Gn[k]? = some (v, g')) ∧ (∀ b ∈ fps Gn, b ∈ fps G ∨ w.heap.size ≤ b) ∧
      (∀ (k : Nat) (g : Value × List Nat), k ∉ ks → G[k]? = some g → Gn[k]? = some g) ∧ (∀ (i : Nat) (g : Value × List Nat), Gn[i]? = some g → (i ∈ ks ∨ G.length ≤ i) → ∀ b ∈ g.2, b ∈ fps (pickG G ks) ∨ w.heap.size ≤ b) := by
  have hm : (G'.take ks.length).length = ks.length := by rw [List.length_take, hG'.len]; omega
  have hks : ∀ k ∈ ks, k < G.length := fun k hk => by obtain ⟨i, hi⟩ := List.getElem?_of_mem hk; exact hlt i k hi
  -- what stands at each place
  have at1 : ∀ (k : Nat) (g : Value × List Nat), (repl G ks (G'.take ks.length) ++ G'.drop ks.length)[k]? = some g →
      (k ∉ ks ∧ k < G.length ∧ G[k]? = some g) ∨ ∃ i : Nat, gf G.length ks i = k ∧ G'[i]? = some g ∧ (i < ks.length ∨ G.length ≤ k) := by
    intro k g h
    by_cases hkl : k < G.length
    · rw [List.getElem?_append_left (by rw [repl_len]; exact hkl)] at h
      rcases repl_cases hkn hm hks h with h | ⟨i, h1, h2⟩
      · exact .inl ⟨h.1, hkl, h.2⟩
      · have hil := (List.getElem?_eq_some_iff.1 h1).1
        rw [List.getElem?_take_of_lt hil] at h2
        exact .inr ⟨i, gf_at h1, h2, .inl hil⟩
    · rw [List.getElem?_append_right (by rw [repl_len]; omega), repl_len, List.getElem?_drop] at h
      exact .inr ⟨ks.length + (k - G.length), by simp only [gf]; rw [if_neg (by omega)]; omega, h, .inr (by omega)⟩
  have at2 : ∀ (i : Nat) (g : Value × List Nat), G'[i]? = some g → (repl G ks (G'.take ks.length) ++ G'.drop ks.length)[gf G.length ks i]? = some g := by
    intro i g h
    by_cases hi : i < ks.length
    · have hki := List.getElem?_eq_getElem hi
      have : gf G.length ks i = ks[i] := by simp [gf, hi, List.getD_eq_getElem?_getD]
      rw [this, List.getElem?_append_left (by rw [repl_len]; exact hlt i _ hki)]
      exact repl_at ks G _ i ks[i] g hkn hki (by rw [List.getElem?_take_of_lt hi]; exact h) (hlt i _ hki)
    · have : gf G.length ks i = G.length + (i - ks.length) := by simp [gf, hi]
      rw [this, List.getElem?_append_right (by rw [repl_len]; omega), repl_len, List.getElem?_drop]
      rw [show ks.length + (G.length + (i - ks.length) - G.length) = i by omega]
      exact h
  have at3 : ∀ (k : Nat) (g : Value × List Nat), k ∉ ks → G[k]? = some g → (repl G ks (G'.take ks.length) ++ G'.drop ks.length)[k]? = some g := by
    intro k g h1 h2
    rw [List.getElem?_append_left (by rw [repl_len]; exact (List.getElem?_eq_some_iff.1 h2).1), repl_ne ks G _ k h1]
    exact h2
  -- a callee's block is no other's
  have apart : ∀ (k : Nat) (g : Value × List Nat), k ∉ ks → G[k]? = some g → ∀ b ∈ g.2, b ∉ fps G' ∧ b ∉ fps (pickG G ks) := by
    intro k g hk' hg b hb
    have h1 : b ∉ fps (pickG G ks) := by
      intro h
      obtain ⟨i, g', hi, hb'⟩ := fps_get h
      have hil : i < ks.length := by have := (List.getElem?_eq_some_iff.1 hi).1; simpa [pickG] using this
      have hki := List.getElem?_eq_getElem hil
      rw [pick_get hki (hlt i _ hki)] at hi
      exact nodup_apart hG.nodup k ks[i] g g' (fun e => hk' (e ▸ List.getElem_mem hil)) hg hi b hb hb'
    refine ⟨fun h => ?_, h1⟩
    have hbl := (hG.lt b (fps_mem hg hb)).1
    rcases (hG'.lt b h).2 with h | h
    · exact h1 h
    · exact absurd hbl (by show ¬ b < w.heap.size; exact Nat.not_lt.2 h)
  have hfn : ∀ b, b ∈ fps (repl G ks (G'.take ks.length) ++ G'.drop ks.length) → b ∈ fps G' ∨ ∃ k g, k ∉ ks ∧ G[k]? = some g ∧ b ∈ g.2 := by
    intro b hb
    obtain ⟨k, g, hg, hb⟩ := fps_get hb
    rcases at1 k g hg with ⟨h1, _, h2⟩ | ⟨i, _, h2, _⟩
    · exact .inr ⟨k, g, h1, h2, hb⟩
    · exact .inl (fps_mem h2 hb)
  have hsub : ∀ b ∈ fps G', b ∈ fps G ∨ w.heap.size ≤ b := fun b hb => (hG'.lt b hb).2.imp (fun h => pick_sub b h) id
  have hok : ∀ b ∈ fps (repl G ks (G'.take ks.length) ++ G'.drop ks.length), b ∈ fps G ∨ w.heap.size ≤ b := by
    intro b hb
    rcases hfn b hb with h | ⟨k, g, _, h1, h2⟩
    · exact hsub b h
    · exact .inl (fps_mem h1 h2)
  have hh : ∀ (k : Nat) (v : Value) (g : List Nat), G[k]? = some (v, g) → ∃ g', (repl G ks (G'.take ks.length) ++ G'.drop ks.length)[k]? = some (v, g') := by
    intro k u g hg
    by_cases hk' : k ∈ ks
    · obtain ⟨i, hi⟩ := List.getElem?_of_mem hk'
      have hil := (List.getElem?_eq_some_iff.1 hi).1
      obtain ⟨g', hg'⟩ := hG'.hd i u (by
        show ((pickG G ks).map (·.1))[i]? = some u
        rw [List.getElem?_map, pick_get hi (hlt i k hi), hg]; rfl)
      refine ⟨g', ?_⟩
      have := at2 i _ hg'
      rwa [gf_at hi] at this
    · exact ⟨g, at3 k _ hk' hg⟩
  have hkG : Kp (fps G) w w' := hk.mono (fun b hb _ => pick_sub b hb)
  have mid : Mv w w' (okG X.Z G) (okG X.Z (repl G ks (G'.take ks.length) ++ G'.drop ks.length)) G (repl G ks (G'.take ks.length) ++ G'.drop ks.length) (fun k => k) := mv_step hkG hh hok
  have hgl : gf ob.length ks = gf G.length ks := by rw [hG.len]
  -- out of the callee's numbering
  have up : ∀ (okb : Nat → Prop), (∀ b, okb b → b < w'.heap.size → okG X.Z (repl G ks (G'.take ks.length) ++ G'.drop ks.length) b) →
      Up w' okb (okG X.Z (repl G ks (G'.take ks.length) ++ G'.drop ks.length)) G' (repl G ks (G'.take ks.length) ++ G'.drop ks.length) (gf ob.length ks) := fun okb h =>
    ⟨h, fun k u f hf => ⟨f, by rw [hgl]; exact at2 k _ hf⟩⟩
  have okup : vs = [] → ∀ b, okG (zc X G ks vs) G' b → b < w'.heap.size → okG X.Z (repl G ks (G'.take ks.length) ++ G'.drop ks.length) b := by
    rintro rfl b ⟨h1, h2⟩ _
    refine ⟨fun h => ?_, fun h => h2 (List.mem_append_left _ h)⟩
    rcases hfn b h with h | ⟨k, g, hk', hg, hb⟩
    · exact h1 h
    · refine h2 (List.mem_append_right _ (List.mem_filter.2 ⟨fps_mem hg hb, ?_⟩))
      have := (apart k g hk' hg b hb).2
      simp [this, pickG, fps]
      simpa [pickG, fps] using this
  refine ⟨repl G ks (G'.take ks.length) ++ G'.drop ks.length, ⟨?_, ?_, ?_, ?_, ?_, ?_, ?_⟩, ?_, hh, hok, at3, fun k g hg hk' b hb => ?_⟩
  · simp only [newob, List.length_append, repl_len, List.length_drop, List.length_map, hG.len, hG'.len]
  · refine nodup_of (fun i g hi => ?_) (fun i j g g' hij hi hj b hb hb' => ?_)
    · rcases at1 i g hi with ⟨_, _, h⟩ | ⟨i', _, h, _⟩
      · exact nodup_each hG.nodup i g h
      · exact nodup_each hG'.nodup i' g h
    · rcases at1 i g hi with ⟨h1, _, h2⟩ | ⟨i', h1, h2, _⟩ <;> rcases at1 j g' hj with ⟨h3, _, h4⟩ | ⟨j', h3, h4, _⟩
      · exact nodup_apart hG.nodup i j g g' hij h2 h4 b hb hb'
      · exact (apart i g h1 h2 b hb).1 (fps_mem h4 hb')
      · exact (apart j g' h3 h4 b hb').1 (fps_mem h2 hb)
      · exact nodup_apart hG'.nodup i' j' g g' (fun e => hij (by rw [← h1, ← h3, e])) h2 h4 b hb hb'
  · intro b hb
    rcases hfn b hb with h | ⟨k, g, _, hg, hb⟩
    · refine ⟨(hG'.lt b h).1, ?_⟩
      rcases hsub b h with h | h
      · exact (hG.lt b h).2
      · exact .inr (Nat.le_trans hs0 h)
    · exact ⟨Nat.lt_of_lt_of_le (hG.lt b (fps_mem hg hb)).1 hk.size, (hG.lt b (fps_mem hg hb)).2⟩
  · intro b hb
    rcases hfn b hb with h | ⟨k, g, _, hg, hb⟩
    · exact fun hz => hG'.z b h (List.mem_append_left _ hz)
    · exact hG.z b (fps_mem hg hb)
  · exact hG.zl
  · intro k u hu
    obtain ⟨g, hg⟩ := hG.hd k u hu
    exact hh k u g hg
  · intro k o g ho hg
    have hol : (repl ob ks ((r.2.take ks.length).map (Ob.ren (gf ob.length ks)))).length = ob.length := repl_len ..
    have hm2 : ((r.2.take ks.length).map (Ob.ren (gf ob.length ks))).length = ks.length := by rw [List.length_map, List.length_take]; omega
    -- the object is an old one or the callee's
    have hcase : (k ∉ ks ∧ ob[k]? = some o ∧ G[k]? = some g) ∨ ∃ (i : Nat) (o' : Ob), r.2[i]? = some o' ∧ G'[i]? = some g ∧ o = o'.ren (gf ob.length ks) := by
      unfold newob at ho
      by_cases hkl : k < ob.length
      · rw [List.getElem?_append_left (by rw [hol]; exact hkl)] at ho
        rcases repl_cases hkn hm2 (fun k hk => by rw [← hG.len]; exact hks k hk) ho with ⟨h1, h2⟩ | ⟨i, h1, h2⟩
        · rcases at1 k g hg with ⟨_, _, h3⟩ | ⟨i, h3, h4, h5⟩
          · exact .inl ⟨h1, h2, h3⟩
          · rcases h5 with h5 | h5
            · refine absurd ?_ h1
              rw [← h3]
              rw [gf_at (List.getElem?_eq_getElem h5)]
              exact List.getElem_mem h5
            · exact absurd hkl (by rw [← hG.len]; omega)
        · right
          have hil := (List.getElem?_eq_some_iff.1 h1).1
          rw [List.getElem?_map, List.getElem?_take_of_lt hil, Option.map_eq_some_iff] at h2
          obtain ⟨o', h2, h3⟩ := h2
          have hgi : G'[i]? = some (G'[i]'(by rw [hG'.len]; omega)) := List.getElem?_eq_getElem _
          have := at2 i _ hgi
          have hgk : gf G.length ks i = k := gf_at h1
          rw [hgk, hg] at this
          cases this
          exact ⟨i, o', h2, hgi, h3.symm⟩
      · right
        rw [List.getElem?_append_right (by rw [hol]; omega), hol, List.getElem?_map, List.getElem?_drop, Option.map_eq_some_iff] at ho
        obtain ⟨o', h2, h3⟩ := ho
        rw [List.getElem?_append_right (by rw [repl_len, hG.len]; omega), repl_len, hG.len, List.getElem?_drop] at hg
        exact ⟨_, o', h2, hg, h3.symm⟩
    rcases hcase with ⟨h1, h2, h3⟩ | ⟨i, o', h1, h2, rfl⟩
    · exact OR_mv' mid (fun b hb => hk.block b (hG.lt b (fps_mem h3 hb)).1 (apart k g h1 h3 b hb).2) (hG.ob k o g h2 h3)
    · have hor := hG'.ob i o' g h1 h2
      rcases hfree with hv | ⟨_, hf⟩
      · exact OR_up (up _ (okup hv)) hor
      · exact OR_up (up (fun _ => False) (fun _ h => h.elim)) (OR_free (hf o' (List.mem_of_getElem? h1)) hor)
  · rcases hfree with hv | ⟨hf, _⟩
    · exact VR_up (up _ (okup hv)) _ _ hr
    · exact VR_up (up (fun _ => False) (fun _ h => h.elim)) _ _ (VR_free _ _ hf hr)
  · rcases at1 k g hg with ⟨h1, h2, _⟩ | ⟨i, _, h2, _⟩
    · rcases hk' with h | h
      · exact absurd h h1
      · omega
    · exact (hG'.lt b (fps_mem h2 hb)).2

theorem call_sim {f : Nat} {ι : Type} {avf : ι → List AV} {obf : ι → List Ob} {pre : ι → Prop} {F : ι → AV × List Ob} (hF : Fn P f avf obf pre F) (x : ι) (hx : pre x) (ks vs : List Nat)
    (hs : Sim X tm ob a w) (hkn : ks.Nodup) (hap : ∀ k ∈ ks, k ∉ vs) (ho : Wo ob (kf ob.length ks) ks (obf x)) (hlen : ks.length ≤ (F x).2.length) (hfree : vs = [] ∨ ((F x).1.free = true ∧ ∀ o ∈ (F x).2, o.free = true)) {vals : List Value}
    (hvals : ∀ G, GOK X ob G w → (∀ t av, get tm t = some av → t < X.N ∧ VR w (okG X.Z G) G av (a.tmps.getD t undef)) → ∀ (Zc : List Nat) (Gc : Gh), Mv w w (okG X.Z G) (okG Zc Gc) G Gc (kf ob.length ks) →
      (∀ k ∈ vs, ∀ g, G[k]? = some g → ∀ b ∈ g.2, okG Zc Gc b) → VRs w (okG Zc Gc) Gc (avf x) vals) :
    Calls P f ⟨vals⟩ w fun e w' => ∃ v Gn, e = .returned v ∧ Sim X tm (newob ob ks (F x).2) a w' ∧ GOK X (newob ob ks (F x).2) Gn w' ∧
      (∀ t av, get tm t = some av → t < X.N ∧ VR w' (okG X.Z Gn) Gn av (a.tmps.getD t undef)) ∧ VR w' (okG X.Z Gn) Gn ((F x).1.ren (gf ob.length ks)) v := by
  obtain ⟨G, hG, hv⟩ := hs.ex
  obtain ⟨h1, h2, h3, h4⟩ := call_in hG hs.kp.size hkn hap ho
  refine (hF x hx w (pickG G ks) (zc X G ks vs) vals h1 (hvals G hG hv _ _ h2 h3)).mono ?_
  rintro e w' ⟨v, G', rfl, hk, hG', hr⟩
  obtain ⟨Gn, g1, g2, g3, g4, _, _⟩ := call_out hG hs.kp.size hkn h4 hlen hfree hk hG' hr
  have hkG : Kp (fps G) w w' := hk.mono (fun b hb _ => pick_sub b hb)
  exact ⟨v, Gn, rfl, sim_step0 hs hG hv hkG g1 g3 g4, g1, fun t av ht => ⟨(hv t av ht).1, VR_mv' (mv_step hkG g3 g4) (hv t av ht).2⟩, g2⟩

theorem ocallG {f : Nat} {ops : Array Oper} {o : Oper} {rest : List Oper} {ι : Type} {avf : ι → List AV} {obf : ι → List Ob} {pre : ι → Prop} {F : ι → AV × List Ob} (hF : Fn P f avf obf pre F) (x : ι) (hx : pre x) (ks vs : List Nat)
    (hw : Wn ops o tm) (hkn : ks.Nodup) (hap : ∀ k ∈ ks, k ∉ vs) (ho : Wo ob (kf ob.length ks) ks (obf x)) (hlen : ks.length ≤ (F x).2.length) (hfree : vs = [] ∨ ((F x).1.free = true ∧ ∀ o ∈ (F x).2, o.free = true))
    (hrun : ∀ a w, Sim X tm ob a w → ∃ vals : List Value, (execOp a.eval o).run P w = .ok (.enter f ⟨vals⟩) w ∧ 
      ∀ G, GOK X ob G w → (∀ t av, get tm t = some av → t < X.N ∧ VR w (okG X.Z G) G av (a.tmps.getD t undef)) → ∀ (Zc : List Nat) (Gc : Gh), Mv w w (okG X.Z G) (okG Zc Gc) G Gc (kf ob.length ks) →
      (∀ k ∈ vs, ∀ g, G[k]? = some g → ∀ b ∈ g.2, okG Zc Gc b) → VRs w (okG Zc Gc) Gc (avf x) vals)
    {tm' : Tm} (hd : (o.dst = none ∧ tm' = tm) ∨ (∃ d, o.dst = some d ∧ d < X.N ∧ tm' = (d, (F x).1.ren (gf ob.length ks)) :: tm))
    (hr : OV P X ops Q rest tm' (newob ob ks (F x).2)) : OV P X ops Q (o :: rest) tm ob := fun a w hs => by
  refine wpList_step fun K hK => ?_
  rw [if_pos (wn_ok hw hs)]
  obtain ⟨vals, h1, h2⟩ := hrun a w hs
  unfold Oper.wp
  rw [h1, Oper.upon_enter]
  refine (call_sim hF x hx ks vs hs hkn hap ho hlen hfree h2).mono ?_
  rintro e w' ⟨v, Gn, rfl, g1, g2, g3, g4⟩
  refine hK _ _ (hr _ _ ?_)
  rcases hd with ⟨hd, rfl⟩ | ⟨d, hd, hN, rfl⟩
  · rw [hd]; exact g1
  · rw [hd]; exact sim_put g1 g2 g3 hN g4
end

/-- The call goes in. -/
def Ent (P : Program) (f : Nat) : Prop := ∀ (args : Array Value) (w : World), (callFunc f args).run P w = .ok (.enter f args) w

section
variable {P : Program} {X : Cx} {Q : Exit → Act → World → Prop} {tm : Tm} {ob : List Ob} {ops : Array Oper} {rest : List Oper} {dst : Option Nat} {ty : TypeId} {pos : String} {after : Array Edge} {gd : Option (Nat × Bool)}
theorem run_call {a : Act} {w : World} {f : Nat} {xs : List Operand} {ats : Array TypeId} (he : Ent P f) :
    (execOp a.eval ⟨dst, .call { callee := .value (.func f), args := xs.toArray, argTypes := ats }, ty, pos, after, gd⟩).run P w = .ok (.enter f ⟨xs.map a.eval⟩) w := by
  simp [execOp, resolve, invoke, Deferred.ofValue, Act.eval]
  exact he _ _
theorem run_callv {a : Act} {w : World} {g : Nat} {x : Operand} {xs : List Operand} {ats : Array TypeId} {caps : List Value} (he : Ent P g) (hx : a.eval x = .func (.func g) #[] ⟨caps⟩) :
    (execOp a.eval ⟨dst, .call { callee := .value x, args := xs.toArray, argTypes := ats }, ty, pos, after, gd⟩).run P w = .ok (.enter g ⟨xs.map a.eval ++ caps⟩) w := by
  simp [execOp, resolve, invoke, Deferred.ofValue, hx]
  exact he _ _
/-- A contract, the call's entry with it. -/
def Fe (P : Program) (f : Nat) {ι : Type} (av : ι → List AV) (ob : ι → List Ob) (pre : ι → Prop) (F : ι → AV × List Ob) : Prop := Ent P f ∧ Fn P f av ob pre F

theorem ocall {f : Nat} {ι : Type} {avf : ι → List AV} {obf : ι → List Ob} {pre : ι → Prop} {F : ι → AV × List Ob} {xs : List Operand} {ats : Array TypeId} {d : Nat} (hF : Fe P f avf obf pre F) (x : ι) (ks vs : List Nat)
    (ha : Ars tm ob (kf ob.length ks) vs xs (avf x)) (hx : pre x)
    (hw : Wn ops ⟨some d, .call { callee := .value (.func f), args := xs.toArray, argTypes := ats }, ty, pos, after, gd⟩ tm) (hkn : ks.Nodup) (hap : ∀ k ∈ ks, k ∉ vs) (ho : Wo ob (kf ob.length ks) ks (obf x)) (hlen : ks.length ≤ (F x).2.length) (hfree : vs = [] ∨ ((F x).1.free = true ∧ ∀ o ∈ (F x).2, o.free = true))
    (hN : d < X.N)
    (hr : OV P X ops Q rest ((d, (F x).1.ren (gf ob.length ks)) :: tm) (newob ob ks (F x).2)) : OV P X ops Q (⟨some d, .call { callee := .value (.func f), args := xs.toArray, argTypes := ats }, ty, pos, after, gd⟩ :: rest) tm ob :=
  ocallG hF.2 x hx ks vs hw hkn hap ho hlen hfree (fun a w hs => ⟨_, run_call hF.1, fun G hG hv Zc Gc m hvs => Ars_ok m hG hv hvs ha⟩) (.inr ⟨d, rfl, hN, rfl⟩) hr
/-- A call of a function value. -/
theorem ocallv {f : Nat} {ι : Type} {avf : ι → List AV} {obf : ι → List Ob} {pre : ι → Prop} {F : ι → AV × List Ob} {g : Operand} {caps : List AV} {xs : List Operand} {ats : Array TypeId} {d : Nat} (hF : Fe P f avf obf pre F) (x : ι) (ks vs : List Nat)
    (hg : rd tm g = some (.fn f caps)) (n : Nat) (ha : Ars tm ob (kf ob.length ks) vs xs ((avf x).take n)) (hc : Acs ob (kf ob.length ks) vs caps ((avf x).drop n)) (hx : pre x)
    (hw : Wn ops ⟨some d, .call { callee := .value g, args := xs.toArray, argTypes := ats }, ty, pos, after, gd⟩ tm) (hkn : ks.Nodup) (hap : ∀ k ∈ ks, k ∉ vs) (ho : Wo ob (kf ob.length ks) ks (obf x)) (hlen : ks.length ≤ (F x).2.length) (hfree : vs = [] ∨ ((F x).1.free = true ∧ ∀ o ∈ (F x).2, o.free = true))
    (hN : d < X.N)
    (hr : OV P X ops Q rest ((d, (F x).1.ren (gf ob.length ks)) :: tm) (newob ob ks (F x).2)) : OV P X ops Q (⟨some d, .call { callee := .value g, args := xs.toArray, argTypes := ats }, ty, pos, after, gd⟩ :: rest) tm ob := by
  refine ocallG hF.2 x hx ks vs hw hkn hap ho hlen hfree (fun a w hs => ?_) (.inr ⟨d, rfl, hN, rfl⟩) hr
  obtain ⟨G, hG, hv⟩ := hs.ex
  have h := rd_ok hv hg
  simp only [VR] at h
  obtain ⟨us, h1, h2⟩ := h
  refine ⟨xs.map a.eval ++ us, run_callv hF.1 h1, fun G hG hv Zc Gc m hvs => ?_⟩
  have h' := rd_ok hv hg
  simp only [VR] at h'
  obtain ⟨us', h1', h2'⟩ := h'
  have : us' = us := by rw [h1] at h1'; simpa using h1'.symm
  subst this
  rw [← List.take_append_drop n (avf x)]
  exact VRs_app (Ars_ok m hG hv hvs ha) (Acs_ok m hG hvs hc h2')
end
end Go.Proofs.YtifpekpmnlcmoaaE
