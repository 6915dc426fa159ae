/- The engine, part 13: elements read and written; rows appended to; rows shared. -/
import Derived.Test.YtifpekpmnlcmoaaE12
set_option linter.unusedVariables false
set_option linter.unusedSimpArgs false
namespace Go.Proofs.YtifpekpmnlcmoaaE
open Go Go.RowKit

section
variable {P : Program} {X : Cx} {Q : Exit → Act → World → Prop} {tm : Tm} {ob : List Ob} {a : Act} {w w' : World} {G G' : Gh}
variable {ops : Array Oper} {rest : List Oper} {dst : Option Nat} {d : Nat} {ty : TypeId} {pos : String} {after : Array Edge} {gd : Option (Nat × Bool)}

/-- An array's element: its cells. -/
theorem arr_at (hG : GOK X ob G w) {k i : Nat} {b n c : Nat} {f : List Nat} {e : TypeId} {ts : Tys} {xs : List ts.den} (ho : ob[k]? = some (.arr false e ts xs)) (hg : G[k]? = some (.slice (some ⟨b, 0, none⟩) n c, f)) {x : ts.den} (hx : xs[i]? = some x) :
    (b < w.heap.size ∧ b ∉ X.Z) ∧ ∃ cs, cs.length = ts.sz ∧ RSs w (okG X.Z G) ts x cs ∧ At w b (i * ts.sz) cs := by
  have hor := hG.ob k _ _ ho hg
  simp only [OR] at hor
  obtain ⟨inner, hown, hel, hf⟩ := hor
  have hn : n = xs.length := by
    obtain ⟨A, c', he, _⟩ := own_form hown
    cases he; rfl
  subst hn
  refine ⟨⟨(hown.lt b rfl).2, hG.z b (fps_mem hg (by rw [hf]; simp [Value.ownBlock]))⟩, chunk ts.sz i inner, RSs_len ts x _ (hel i x hx), hel i x hx, ?_⟩
  have := at_of_owns hown i
  rwa [Nat.zero_add] at this
theorem ix_get {α : Type} {z : α} {xs : List α} {i : Nat} (h : i < xs.length) : xs[i]? = some (ix z xs i) := by
  simp [ix, List.getD_eq_getElem?_getD, h]
theorem At_take {b p n : Nat} {cs : List Value} (h : At w b p cs) : At w b p (cs.take n) := fun i u hu => by
  rw [List.getElem?_take] at hu
  split at hu
  · exact h i u hu
  · cases hu
/-- An element's cell. -/
theorem lde {t : TypeId} {x : Operand} {k i off : Nat} {e : TypeId} {ts : Tys} {xs : List ts.den} {sy : Ty} {ts' : Tys} (hx : rd tm x = some (.ep k i ts.sz off)) (ho : ob[k]? = some (.arr false e ts xs)) (hi : i < xs.length)
    (hoff : off < ts.sz) (hd : Tys.drop off ts = .cons sy ts') (ht : TI P t false 1) : Val P X tm ob ⟨dst, .load t x, ty, pos, after, gd⟩ (.c sy (hd ▸ Tys.dropd off ts (ix ts.z xs i)).1) := fun a w G hG hv => by
  have hr := hv x _ hx
  simp only [VR] at hr
  obtain ⟨b, n, c, f, hg, hr⟩ := hr
  obtain ⟨hlt, cs, hl, hR, hA⟩ := arr_at hG ho hg (ix_get (z := ts.z) hi)
  have h2 := dropd_ok off ts _ cs (by omega) hR
  have h3 := At_drop hA off
  generalize Tys.dropd off ts (ix ts.z xs i) = y at h2
  generalize Tys.drop off ts = us at hd y h2
  subst hd
  obtain ⟨y1, y2⟩ := y
  simp only [RSs] at h2
  obtain ⟨v, cs', he, h4, h5⟩ := h2
  rw [he] at h3
  exact ⟨v, fun w' hw => run_load1 hr ht (by have := (kp_at hw hlt.1 hlt.2 h3) 0 v rfl; simpa using this), h4⟩
/-- An element whole. -/
theorem lden {t : TypeId} {x : Operand} {k i : Nat} {e : TypeId} {ts : Tys} {xs : List ts.den} (hx : rd tm x = some (.ep k i ts.sz 0)) (ho : ob[k]? = some (.arr false e ts xs)) (hi : i < xs.length)
    (ht : TI P t true ts.sz) : Val P X tm ob ⟨dst, .load t x, ty, pos, after, gd⟩ (.agg (avs ts.sz ts (ix ts.z xs i))) := fun a w G hG hv => by
  have hr := hv x _ hx
  simp only [VR] at hr
  obtain ⟨b, n, c, f, hg, hr⟩ := hr
  obtain ⟨hlt, cs, hl, hR, hA⟩ := arr_at hG ho hg (ix_get (z := ts.z) hi)
  refine ⟨.agg ⟨cs⟩, fun w' hw => run_loadn hr ht hl (kp_at hw hlt.1 hlt.2 (by simpa using hA)), by
    simp only [VR]
    refine ⟨_, rfl, ?_⟩
    have := avs_ok (G := G) ts.sz ts _ cs hR
    rwa [List.take_of_length_le (by omega)] at this⟩

/-- A store into a row of the call's own: the whole element. -/
theorem sste {t : TypeId} {p x : Operand} {k i : Nat} {e : TypeId} {ts : Tys} {xs : List ts.den} {av : AV} {y : ts.den} {ag : Bool} (hp : rd tm p = some (.ep k i ts.sz 0)) (ho : ob[k]? = some (.arr false e ts xs)) (hi : i < xs.length)
    (hx : rd tm x = some av) (hI : Is ts y av) (ht : TI P t ag ts.sz) :
    Sto0 P X tm ob [k] (ob.set k (.arr false e ts (xs.set i y))) ⟨none, .store t p x, ty, pos, after, gd⟩ := fun a w G hs0 hG hv => by
    have hA := hv p _ hp
    simp only [VR] at hA
    obtain ⟨b, n, c, f, hg, hA⟩ := hA
    have hor := hG.ob k _ _ ho hg
    simp only [OR] at hor
    obtain ⟨inner, hown, hel, hf⟩ := hor
    have hR := is_ok hI (hv x _ hx)
    have hl := RSs_len ts y _ hR
    obtain ⟨hlen, h | ⟨b', cap, cur, he, hb0, hh, hnc, hcm, hcs, htk⟩⟩ := hown
    · cases h.1
    · simp only [Value.slice.injEq, Option.some.injEq, Addr.mk.injEq, and_true] at he
      obtain ⟨rfl, rfl, rfl⟩ := he
      have hi1 : (i + 1) * ts.sz ≤ xs.length * ts.sz := Nat.mul_le_mul_right _ hi
      rw [Nat.add_mul, Nat.one_mul] at hi1
      have hc1 : xs.length * ts.sz ≤ c * ts.sz := Nat.mul_le_mul_right _ hnc
      have hput : i * ts.sz + (a.eval x).cells.toList.length ≤ cur.toList.length := by rw [hl, Array.length_toList, hcs]; omega
      have hst := run_storeAt_put (P := P) (t := t) (v := a.eval x) (vs := (a.eval x).cells.toList) (off := i * ts.sz) hh (by simp) (by simpa using hput) (RSs_one ts y _ hR) (by rw [hl]; exact ht.sz)
      have hK : Kp (fps G) w (w.setRow b (putl cur.toList (i * ts.sz) (a.eval x).cells.toList).toArray) := kp_setRow.mono (fun z hz _ => by simp only [List.mem_singleton] at hz; subst hz; exact fps_mem hg (by rw [hf]; simp [Value.ownBlock]))
      have hkeep : ∀ (j : Nat) (gi : Value × List Nat), j ≠ k → G[j]? = some gi → ∀ z ∈ gi.2, (w.setRow b (putl cur.toList (i * ts.sz) (a.eval x).cells.toList).toArray).heap[z]? = w.heap[z]? := fun j gi hjk hj z hz =>
        setRow_other w b z _ (fun e' => nodup_apart hG.nodup j k gi _ hjk hj hg z hz (by rw [hf, e']; simp [Value.ownBlock]))
      have hsub : ∀ z ∈ fps (G.set k (.slice (some ⟨b, 0, none⟩) xs.length c, f)), z ∈ fps G ∨ w.heap.size ≤ z := by
        have : G.set k (.slice (some ⟨b, 0, none⟩) xs.length c, f) = G := by
          apply List.ext_getElem?
          intro j
          by_cases hjk : j = k
          · subst hjk; rw [List.getElem?_set_self (List.getElem?_eq_some_iff.1 hg).1, hg]
          · rw [List.getElem?_set_ne (Ne.symm hjk)]
        rw [this]
        exact fun z hz => .inl hz
      have m := mv_step (X := X) hK (G' := G.set k (.slice (some ⟨b, 0, none⟩) xs.length c, f)) (fun j v' g h => by
          by_cases hjk : j = k
          · subst hjk
            rw [hg] at h
            simp only [Option.some.injEq, Prod.mk.injEq] at h
            exact ⟨f, by rw [List.getElem?_set_self (List.getElem?_eq_some_iff.1 hg).1, h.1]⟩
          · exact ⟨g, by rw [List.getElem?_set_ne (Ne.symm hjk)]; exact h⟩) hsub
      obtain ⟨g1, g2, g3⟩ := gok_set hG hs0 hg (o := .arr false e ts (xs.set i y)) hK hkeep (by rw [hf]; simp [Value.ownBlock]) (fun z hz => ⟨by rw [setRow_size]; exact (hG.lt z (fps_mem hg hz)).1, .inl hz⟩) (by
        simp only [OR]
        have hil : inner.length = xs.length * ts.sz := hlen
        refine ⟨putl inner (i * ts.sz) (a.eval x).cells.toList, ⟨by rw [putl_len (by rw [hl, hil]; exact hi1), hil, List.length_set], .inr ⟨b, c, _, by rw [List.length_set], Nat.zero_le _, setRow_heap w b _ _ _ _ hh, by rw [List.length_set]; exact hnc, hcm, by rw [List.size_toArray, putl_len hput, Array.length_toList, hcs], ?_⟩⟩, fun j z hj => ?_, by rw [hf]⟩
        · rw [List.length_set]
          apply List.ext_getElem?
          intro q
          rw [List.getElem?_take, putl_get hput, putl_get (by rw [hl, hil]; exact hi1), ← htk, List.getElem?_take, hl]
          (repeat' split) <;> first | rfl | omega
        · by_cases hji : j = i
          · subst hji
            rw [List.getElem?_set_self hi] at hj
            simp only [Option.some.injEq] at hj
            subst hj
            have : chunk ts.sz j (putl inner (j * ts.sz) (a.eval x).cells.toList) = (a.eval x).cells.toList := by
              apply List.ext_getElem?
              intro q
              by_cases hq : q < ts.sz
              · rw [chunk_get hq, putl_get (by rw [hl, hil]; exact hi1), if_neg (by omega), if_pos (by omega)]
                congr 1; omega
              · rw [List.getElem?_eq_none (by unfold chunk; rw [List.length_take]; omega), List.getElem?_eq_none (by omega)]
            rw [this]
            exact RSs_mono m.size m.ok ts y _ hR
          · rw [List.getElem?_set_ne (Ne.symm hji)] at hj
            have hjl := (List.getElem?_eq_some_iff.1 hj).1
            have : chunk ts.sz j (putl inner (i * ts.sz) (a.eval x).cells.toList) = chunk ts.sz j inner := by
              apply List.ext_getElem?
              intro q
              by_cases hq : q < ts.sz
              · rw [chunk_get hq, chunk_get hq, putl_get (by rw [hl, hil]; exact hi1), hl]
                rcases Nat.lt_or_ge j i with h | h
                · have := Nat.mul_le_mul_right ts.sz (show j + 1 ≤ i from h)
                  rw [Nat.add_mul, Nat.one_mul] at this
                  rw [if_pos (by omega)]
                · have := Nat.mul_le_mul_right ts.sz (show i + 1 ≤ j by omega)
                  rw [Nat.add_mul, Nat.one_mul] at this
                  rw [if_neg (by omega), if_neg (by omega)]
              · rw [List.getElem?_eq_none (by unfold chunk; rw [List.length_take]; omega), List.getElem?_eq_none (by unfold chunk; rw [List.length_take]; omega)]
            rw [this]
            exact RSs_mono m.size m.ok ts z _ (hel j z hj))
      refine ⟨_, _, ?_, st_set hg (kp_setRow.mono (fun z hz _ => by simp only [List.mem_singleton] at hz; subst hz; exact (pick_one hg).2 (by rw [hf]; simp [Value.ownBlock]))) g1 (fun z hz => .inl hz)⟩
      simp only [execOp, Sem.run_bind, hA, Nat.add_zero, hst, Result.andThen_ok, Sem.run_pure]
theorem ste {t : TypeId} {p x : Operand} {k i : Nat} {e : TypeId} {ts : Tys} {xs : List ts.den} {av : AV} {y : ts.den} {ag : Bool} (hw : Wn ops ⟨none, .store t p x, ty, pos, after, gd⟩ tm) (hp : rd tm p = some (.ep k i ts.sz 0)) (ho : ob[k]? = some (.arr false e ts xs)) (hi : i < xs.length)
    (hx : rd tm x = some av) (hI : Is ts y av) (ht : TI P t ag ts.sz)
    (hr : OV P X ops Q rest tm (ob.set k (.arr false e ts (xs.set i y)))) : OV P X ops Q (⟨none, .store t p x, ty, pos, after, gd⟩ :: rest) tm ob :=
  osto0 hw rfl (sste hp ho hi hx hI ht) hr
end
end Go.Proofs.YtifpekpmnlcmoaaE
