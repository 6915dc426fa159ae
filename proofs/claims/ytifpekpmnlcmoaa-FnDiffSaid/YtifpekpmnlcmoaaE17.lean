/- The engine, part 17: strings.Builder: a variable and its row taken as one. -/
import Derived.Test.YtifpekpmnlcmoaaE16
set_option linter.unusedVariables false
set_option linter.unusedSimpArgs false
namespace Go.Proofs.YtifpekpmnlcmoaaE
open Go Go.RowKit

abbrev KB8 : Tys := .cons (.i .u8) .nil
def byts (bs : List UInt8) : List KB8.den := bs.map fun b => ((b.toNat : Int), ())
theorem byts_len (bs : List UInt8) : (byts bs).length = bs.length := by simp [byts]
theorem byts_app (a b : List UInt8) : byts (a ++ b) = byts a ++ byts b := by simp [byts]

section
variable {P : Program} {X : Cx} {Q : Exit → Act → World → Prop} {tm : Tm} {ob : List Ob} {a : Act} {w : World} {G : Gh}

theorem bytes_el {ok : Nat → Prop} {bs : List UInt8} (j : Nat) (x : KB8.den) (hj : (byts bs)[j]? = some x) : RSs w ok KB8 x (chunk KB8.sz j (bs.map bcell)) := by
  simp only [byts, List.getElem?_map, Option.map_eq_some_iff] at hj
  obtain ⟨b, hb, rfl⟩ := hj
  have : chunk KB8.sz j (bs.map bcell) = [bcell b] := by
    apply List.ext_getElem?
    intro i
    by_cases hi : i < 1
    · have : i = 0 := by omega
      subst this
      rw [chunk_get (by decide)]
      simp [Tys.sz, hb]
    · rw [List.getElem?_eq_none (by unfold chunk; rw [List.length_take]; simp [Tys.sz]; omega), List.getElem?_eq_none (by simp; omega)]
  rw [this]
  exact ⟨_, _, rfl, ⟨rfl, wrap_u8 b⟩, rfl⟩
/-- A row of bytes. -/
theorem bytes_arr {ok : Nat → Prop} {e : TypeId} {bs : List UInt8} {v : Value} (h : w.ownsRow 0 e 1 v bs.length (bs.map bcell)) : OR w ok G (.arr false e KB8 (byts bs)) (v, v.ownBlock.toList) := by
  simp only [OR]
  exact ⟨bs.map bcell, by rw [byts_len]; exact h, fun j x hj => bytes_el j x hj, trivial⟩
theorem arr_bytes {ok : Nat → Prop} {e : TypeId} {bs : List UInt8} {v : Value} {f : List Nat} (h : OR w ok G (.arr false e KB8 (byts bs)) (v, f)) : w.ownsRow 0 e 1 v bs.length (bs.map bcell) ∧ f = v.ownBlock.toList := by
  simp only [OR] at h
  obtain ⟨inner, ho, hx, hf⟩ := h
  have hl := ho.1
  rw [byts_len] at ho hl
  have : inner = bs.map bcell := by
    apply List.ext_getElem?
    intro j
    by_cases hj : j < bs.length
    · have hxj := hx j ((bs[j].toNat : Int), ()) (by simp [byts, hj])
      simp only [RSs, RS] at hxj
      obtain ⟨v', cs, hc, ⟨hv, _⟩, hcs⟩ := hxj
      have h0 := chunk_get (sz := KB8.sz) (j := j) (i := 0) (inner := inner) (by decide)
      rw [hc] at h0
      simp only [List.getElem?_cons_zero, Tys.sz, Nat.add_zero, Nat.zero_add, Nat.mul_one] at h0
      rw [← h0, hv]
      simp [hj, bcell]
    · rw [List.getElem?_eq_none (by simp [Tys.sz] at hl; omega), List.getElem?_eq_none (by simp; omega)]
  subst this
  exact ⟨ho, hf⟩

theorem set_cases {α : Type} {l : List α} {k i : Nat} {x y : α} (h : (l.set k x)[i]? = some y) : (i = k ∧ y = x ∧ k < l.length) ∨ (i ≠ k ∧ l[i]? = some y) := by
  by_cases hik : i = k
  · subst hik
    have hl : i < l.length := by have := (List.getElem?_eq_some_iff.1 h).1; simpa using this
    rw [List.getElem?_set_self hl] at h
    simp only [Option.some.injEq] at h
    exact .inl ⟨rfl, h.symm, hl⟩
  · rw [List.getElem?_set_ne (Ne.symm hik)] at h
    exact .inr ⟨hik, h⟩
theorem app_cases {α : Type} {l : List α} {i : Nat} {x y : α} (h : (l ++ [x])[i]? = some y) : (i = l.length ∧ y = x) ∨ (i < l.length ∧ l[i]? = some y) := by
  rcases Nat.lt_or_ge i l.length with hi | hi
  · rw [List.getElem?_append_left hi] at h; exact .inr ⟨hi, h⟩
  · rw [List.getElem?_append_right hi] at h
    have : i - l.length = 0 := by
      have := (List.getElem?_eq_some_iff.1 h).1
      simp at this; omega
    rw [this] at h
    simp at h
    exact .inl ⟨by omega, h.symm⟩

/-- A fresh Builder. -/
theorem bldI {k : Nat} {T : TypeId} (e : TypeId) (ho : ob[k]? = some (.box T [.np, .nl])) : Wk X tm ob tm (ob.set k (.bld T e [])) := fun a w hs => by
  obtain ⟨G, hG, hv⟩ := hs.ex
  have hkl : k < G.length := by rw [hG.len]; exact (List.getElem?_eq_some_iff.1 ho).1
  have hg : G[k]? = some (G[k].1, G[k].2) := List.getElem?_eq_getElem hkl
  have hor := hG.ob k _ _ ho hg
  simp only [OR] at hor
  obtain ⟨b, vs, he, hh, hvs, _⟩ := hor
  simp only [VRs, VR] at hvs
  obtain ⟨p, vs1, rfl, hp, q, vs2, rfl, hq, rfl⟩ := hvs
  obtain ⟨q1, q2, q3⟩ := gok_set (f' := G[k].2) (o := .bld T e []) hG hs.kp.size hg (Kp.refl _ w) (fun _ _ _ _ _ _ => rfl) (nodup_each hG.nodup k _ hg) (fun b hb => ⟨(hG.lt b (fps_mem hg hb)).1, .inl hb⟩) (by
    simp only [OR]
    refine ⟨b, p, q, ?_, hh, .inl hp, ?_⟩
    · rw [he, hq]; rfl
    · rw [hq]; exact World.ownsRow_nil w 0 e 1)
  exact ⟨hs.n, hs.d, hs.kp, _, q1, fun t av ht => ⟨(hv t av ht).1, VR_mv' (mv_step (Kp.refl _ w) q2 q3) (hv t av ht).2⟩⟩

/-- A Builder taken apart. -/
theorem cbu {c : Code} {k : Nat} {T e : TypeId} {bs : List UInt8} (ho : ob[k]? = some (.bld T e bs))
    (h1 : CV P X c Q tm (ob.set k (.box T [.np, .own ob.length]) ++ [.arr false e KB8 (byts bs)])) (h2 : CV P X c Q tm (ob.set k (.box T [.bp k 0, .own ob.length]) ++ [.arr false e KB8 (byts bs)])) : CV P X c Q tm ob := fun a w hs => by
  obtain ⟨G, hG, hv⟩ := hs.ex
  have hkl : k < G.length := by rw [hG.len]; exact (List.getElem?_eq_some_iff.1 ho).1
  have hg : G[k]? = some G[k] := List.getElem?_eq_getElem hkl
  have hor := hG.ob k _ _ ho hg
  simp only [OR] at hor
  obtain ⟨b, p, v, he, hh, hp, hown⟩ := hor
  rw [he] at hg
  have hnd := nodup_each hG.nodup k _ hg
  simp only [List.nodup_cons] at hnd
  have key : ∀ pv : AV, pv.one ob = true → VR w (okG X.Z (G.set k (.pointer (some ⟨b, 0, none⟩), [b]) ++ [(v, v.ownBlock.toList)])) (G.set k (.pointer (some ⟨b, 0, none⟩), [b]) ++ [(v, v.ownBlock.toList)]) pv p → (∃ q, p = .pointer q) →
      Sim X tm (ob.set k (.box T [pv, .own ob.length]) ++ [.arr false e KB8 (byts bs)]) a w := by
    intro pv _ hpv hpq
    have hh' : ∀ (i : Nat) (u : Value) (f : List Nat), G[i]? = some (u, f) → ∃ f', (G.set k (.pointer (some ⟨b, 0, none⟩), [b]) ++ [(v, v.ownBlock.toList)])[i]? = some (u, f') := by
      intro i u f h
      have hi := (List.getElem?_eq_some_iff.1 h).1
      rw [List.getElem?_append_left (by rw [List.length_set]; exact hi)]
      by_cases hik : i = k
      · subst hik
        rw [hg] at h
        simp only [Option.some.injEq, Prod.mk.injEq] at h
        exact ⟨[b], by rw [List.getElem?_set_self hi, h.1]⟩
      · exact ⟨f, by rw [List.getElem?_set_ne (Ne.symm hik)]; exact h⟩
    have hat : ∀ (i : Nat) (gi : Value × List Nat), (G.set k (.pointer (some ⟨b, 0, none⟩), [b]) ++ [(v, v.ownBlock.toList)])[i]? = some gi → (i = G.length ∧ gi = (v, v.ownBlock.toList)) ∨ (i = k ∧ gi = (.pointer (some ⟨b, 0, none⟩), [b])) ∨ (i ≠ k ∧ G[i]? = some gi) := by
      intro i gi h
      rcases app_cases h with ⟨h1, h2⟩ | ⟨_, h⟩
      · exact .inl ⟨by simpa using h1, h2⟩
      · rcases set_cases h with ⟨h1, h2, _⟩ | ⟨h1, h2⟩
        · exact .inr (.inl ⟨h1, h2⟩)
        · exact .inr (.inr ⟨h1, h2⟩)
    have hbb : ∀ x ∈ fps (G.set k (.pointer (some ⟨b, 0, none⟩), [b]) ++ [(v, v.ownBlock.toList)]), x ∈ fps G := by
      intro x hx
      obtain ⟨i, gi, hi, hxi⟩ := fps_get hx
      rcases hat i gi hi with ⟨_, rfl⟩ | ⟨_, rfl⟩ | ⟨_, h⟩
      · exact fps_mem hg (List.mem_cons_of_mem _ hxi)
      · exact fps_mem hg (by simp only [List.mem_singleton] at hxi; rw [hxi]; exact List.mem_cons_self)
      · exact fps_mem h hxi
    have m : Mv w w (okG X.Z G) (okG X.Z (G.set k (.pointer (some ⟨b, 0, none⟩), [b]) ++ [(v, v.ownBlock.toList)])) G (G.set k (.pointer (some ⟨b, 0, none⟩), [b]) ++ [(v, v.ownBlock.toList)]) (fun k => k) := mv_step (Kp.refl _ w) hh' (fun x hx => .inl (hbb x hx))
    refine ⟨hs.n, hs.d, hs.kp, _, gok_gen hG hs.kp.size (Kp.refl _ w) (by simp [hG.len]) (nodup_of (fun i gi hi => ?_) (fun i j gi gj hij hi hj x hxi hxj => ?_)) (fun x hx => ⟨.inl (hbb x hx), (hG.lt x (hbb x hx)).1⟩) hh' (fun i o gi h1 h2 => ?_), fun t av ht => ⟨(hv t av ht).1, VR_mv' m (hv t av ht).2⟩⟩
    · rcases hat i gi hi with ⟨_, rfl⟩ | ⟨_, rfl⟩ | ⟨_, h⟩
      · exact hnd.2
      · simp
      · exact nodup_each hG.nodup i gi h
    · have e1 : ∀ x, x ∈ v.ownBlock.toList → x ≠ b := fun x h e => hnd.1 (e ▸ h)
      have ap : ∀ (i : Nat) (gi : Value × List Nat), i ≠ k → G[i]? = some gi → ∀ x ∈ gi.2, x ≠ b ∧ x ∉ v.ownBlock.toList := fun i gi hik h x hx =>
        ⟨fun e => nodup_apart hG.nodup i k gi _ hik h hg x hx (by rw [e]; exact List.mem_cons_self), fun h' => nodup_apart hG.nodup i k gi _ hik h hg x hx (List.mem_cons_of_mem _ h')⟩
      rcases hat i gi hi with ⟨h1, rfl⟩ | ⟨h1, rfl⟩ | ⟨h1, h⟩ <;> rcases hat j gj hj with ⟨h2, rfl⟩ | ⟨h2, rfl⟩ | ⟨h2, h'⟩
      · omega
      · exact e1 x hxi (by simpa using hxj)
      · exact (ap j gj h2 h' x hxj).2 hxi
      · exact e1 x hxj (by simpa using hxi)
      · omega
      · exact (ap j gj h2 h' x hxj).1 (by simpa using hxi)
      · exact (ap i gi h1 h x hxi).2 hxj
      · exact (ap i gi h1 h x hxi).1 (by simpa using hxj)
      · exact nodup_apart hG.nodup i j gi gj hij h h' x hxi hxj
    · rcases hat i gi h2 with ⟨h3, rfl⟩ | ⟨h3, rfl⟩ | ⟨h3, h4⟩
      · right
        rw [h3, hG.len, List.getElem?_append_right (by simp)] at h1
        simp at h1
        rw [← h1]
        exact bytes_arr hown
      · right
        rw [h3, List.getElem?_append_left (by rw [List.length_set, ← hG.len]; exact hkl), List.getElem?_set_self (by rw [← hG.len]; exact hkl)] at h1
        simp only [Option.some.injEq] at h1
        subst h1
        simp only [OR]
        refine ⟨b, [p, v], rfl, hh, ⟨p, [v], rfl, hpv, v, [], rfl, ?_, rfl⟩, ?_⟩
        · simp only [VR]
          exact ⟨(v, v.ownBlock.toList), by rw [← hG.len, List.getElem?_append_right (by simp)]; simp, rfl⟩
        · intro u hu
          simp only [List.mem_cons, List.not_mem_nil, or_false] at hu
          rcases hu with rfl | rfl
          · obtain ⟨q, rfl⟩ := hpq; rfl
          · obtain ⟨A, c, rfl, _⟩ := own_form hown; rfl
      · left
        have hil : i < ob.length := by rw [← hG.len]; exact (List.getElem?_eq_some_iff.1 h4).1
        rw [List.getElem?_append_left (by rw [List.length_set]; exact hil), List.getElem?_set_ne (Ne.symm h3)] at h1
        exact ⟨h1, h4, fun _ _ => rfl⟩
  rcases hp with rfl | rfl
  · exact h1 a w (key .np rfl rfl ⟨_, rfl⟩)
  · refine h2 a w (key (.bp k 0) rfl ?_ ⟨_, rfl⟩)
    simp only [VR]
    exact ⟨b, [b], by rw [List.getElem?_append_left (by rw [List.length_set]; exact hkl), List.getElem?_set_self hkl], rfl⟩

/-- .. and put together. -/
theorem bldF {k j : Nat} {T e : TypeId} {bs : List UInt8} {pv : AV} (hpv : pv = .np ∨ pv = .bp k 0) (ho : ob[k]? = some (.box T [pv, .own j])) (hj : ob[j]? = some (.arr false e KB8 (byts bs))) : Wk X tm ob tm ((ob.set j .dead).set k (.bld T e bs)) := fun a w hs => by
  obtain ⟨G, hG, hv⟩ := hs.ex
  have hjk : j ≠ k := fun e => by subst e; rw [ho] at hj; cases hj
  have hkl : k < G.length := by rw [hG.len]; exact (List.getElem?_eq_some_iff.1 ho).1
  have hjl : j < G.length := by rw [hG.len]; exact (List.getElem?_eq_some_iff.1 hj).1
  have hg : G[k]? = some G[k] := List.getElem?_eq_getElem hkl
  have hgj : G[j]? = some (G[j].1, G[j].2) := List.getElem?_eq_getElem hjl
  have hor := hG.ob k _ _ ho hg
  simp only [OR] at hor
  obtain ⟨b, vs, he, hh, hvs, _⟩ := hor
  rw [he] at hg
  obtain ⟨hrow, hf⟩ := arr_bytes (hG.ob j _ _ hj hgj)
  simp only [VRs] at hvs
  obtain ⟨p, vs1, rfl, hp0, q, vs2, rfl, hq0, rfl⟩ := hvs
  have hp2 : p = .pointer none ∨ p = .pointer (some ⟨b, 0, none⟩) := by
    rcases hpv with rfl | rfl
    · simp only [VR] at hp0; exact .inl hp0
    · simp only [VR] at hp0
      obtain ⟨b', f', hp1, hp2⟩ := hp0
      rw [hg] at hp1
      simp only [Option.some.injEq, Prod.mk.injEq, Value.pointer.injEq, Addr.mk.injEq, and_true] at hp1
      obtain ⟨rfl, _⟩ := hp1
      exact .inr hp2
  simp only [VR] at hq0
  obtain ⟨gq, hq1, hq2⟩ := hq0
  rw [hgj] at hq1
  simp only [Option.some.injEq] at hq1
  subst hq1
  generalize G[j].1 = v at *
  generalize G[j].2 = f at *
  subst hf
  have hbn : b ∉ v.ownBlock.toList := fun h => nodup_apart hG.nodup j k _ _ hjk hgj hg b h (by simp)
  have hat : ∀ (i : Nat) (gi : Value × List Nat), ((G.set j (v, [])).set k (.pointer (some ⟨b, 0, none⟩), b :: v.ownBlock.toList))[i]? = some gi → (i = k ∧ gi = (.pointer (some ⟨b, 0, none⟩), b :: v.ownBlock.toList)) ∨ (i = j ∧ gi = (v, [])) ∨ (i ≠ k ∧ i ≠ j ∧ G[i]? = some gi) := by
    intro i gi h
    rcases set_cases h with ⟨h1, h2, _⟩ | ⟨h1, h⟩
    · exact .inl ⟨h1, h2⟩
    · rcases set_cases h with ⟨h3, h4, _⟩ | ⟨h3, h4⟩
      · exact .inr (.inl ⟨h3, h4⟩)
      · exact .inr (.inr ⟨h1, h3, h4⟩)
  have hh' : ∀ (i : Nat) (u : Value) (f : List Nat), G[i]? = some (u, f) → ∃ f', ((G.set j (v, [])).set k (.pointer (some ⟨b, 0, none⟩), b :: v.ownBlock.toList))[i]? = some (u, f') := by
    intro i u f h
    by_cases hik : i = k
    · subst hik
      rw [hg] at h
      simp only [Option.some.injEq, Prod.mk.injEq] at h
      exact ⟨_, by rw [List.getElem?_set_self (by simpa using hkl), h.1]⟩
    · rw [List.getElem?_set_ne (Ne.symm hik)]
      by_cases hij : i = j
      · subst hij
        rw [hgj] at h
        simp only [Option.some.injEq, Prod.mk.injEq] at h
        exact ⟨_, by rw [List.getElem?_set_self hjl, h.1]⟩
      · exact ⟨f, by rw [List.getElem?_set_ne (Ne.symm hij)]; exact h⟩
  have hbb : ∀ x ∈ fps ((G.set j (v, [])).set k (.pointer (some ⟨b, 0, none⟩), b :: v.ownBlock.toList)), x ∈ fps G := by
    intro x hx
    obtain ⟨i, gi, hi, hxi⟩ := fps_get hx
    rcases hat i gi hi with ⟨_, rfl⟩ | ⟨_, rfl⟩ | ⟨_, _, h⟩
    · rcases List.mem_cons.1 hxi with rfl | h
      · exact fps_mem hg (by simp)
      · exact fps_mem hgj h
    · simp at hxi
    · exact fps_mem h hxi
  have m : Mv w w (okG X.Z G) (okG X.Z ((G.set j (v, [])).set k (.pointer (some ⟨b, 0, none⟩), b :: v.ownBlock.toList))) G ((G.set j (v, [])).set k (.pointer (some ⟨b, 0, none⟩), b :: v.ownBlock.toList)) (fun k => k) := mv_step (Kp.refl _ w) hh' (fun x hx => .inl (hbb x hx))
  refine ⟨hs.n, hs.d, hs.kp, _, gok_gen hG hs.kp.size (Kp.refl _ w) (by simp [hG.len]) (nodup_of (fun i gi hi => ?_) (fun i i2 gi gj hij hi hi2 x hxi hxj => ?_)) (fun x hx => ⟨.inl (hbb x hx), (hG.lt x (hbb x hx)).1⟩) hh' (fun i o gi h1 h2 => ?_), fun t av ht => ⟨(hv t av ht).1, VR_mv' m (hv t av ht).2⟩⟩
  · rcases hat i gi hi with ⟨_, rfl⟩ | ⟨_, rfl⟩ | ⟨_, _, h⟩
    · exact List.nodup_cons.2 ⟨hbn, by cases v.ownBlock <;> simp⟩
    · exact List.nodup_nil
    · exact nodup_each hG.nodup i gi h
  · have ap : ∀ (i : Nat) (gi : Value × List Nat), i ≠ k → i ≠ j → G[i]? = some gi → ∀ x ∈ gi.2, x ∉ b :: v.ownBlock.toList := fun i gi hik hij h x hx h' => by
      rcases List.mem_cons.1 h' with rfl | h'
      · exact nodup_apart hG.nodup i k gi _ hik h hg x hx (by simp)
      · exact nodup_apart hG.nodup i j gi _ hij h hgj x hx h'
    rcases hat i gi hi with ⟨h1, rfl⟩ | ⟨h1, rfl⟩ | ⟨h1, h1', h⟩ <;> rcases hat i2 gj hi2 with ⟨h2, rfl⟩ | ⟨h2, rfl⟩ | ⟨h2, h2', h'⟩
    · omega
    · simp at hxj
    · exact ap i2 gj h2 h2' h' x hxj hxi
    · simp at hxi
    · omega
    · simp at hxi
    · exact ap i gi h1 h1' h x hxi hxj
    · simp at hxj
    · exact nodup_apart hG.nodup i i2 gi gj hij h h' x hxi hxj
  · rcases hat i gi h2 with ⟨h3, rfl⟩ | ⟨h3, rfl⟩ | ⟨h3, h4, h5⟩
    · right
      rw [h3, List.getElem?_set_self (by rw [List.length_set, ← hG.len]; exact hkl)] at h1
      simp only [Option.some.injEq] at h1
      subst h1
      simp only [OR]
      exact ⟨b, p, v, rfl, by rw [hh, hq2], hp2, hrow⟩
    · right
      rw [h3, List.getElem?_set_ne (Ne.symm hjk), List.getElem?_set_self (by rw [← hG.len]; exact hjl)] at h1
      simp only [Option.some.injEq] at h1
      subst h1
      rfl
    · left
      rw [List.getElem?_set_ne (Ne.symm h3), List.getElem?_set_ne (Ne.symm h4)] at h1
      exact ⟨h1, h5, fun _ _ => rfl⟩
end
end Go.Proofs.YtifpekpmnlcmoaaE
