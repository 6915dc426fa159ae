/- The engine, part 33: a store to one cell of an element of a row of the call's own. -/
import Derived.Test.YtifpekpmnlcmoaaE32
set_option linter.unusedVariables false
set_option linter.unusedSimpArgs false
namespace Go.Proofs.YtifpekpmnlcmoaaE
open Go Go.RowKit

section
variable {P : Program} {X : Cx} {Q : Exit → Act → World → Prop} {tm tm' : Tm} {ob ob' : List Ob} {a : Act} {w : World} {ops : Array Oper} {d : Nat} {ty : TypeId} {pos : String} {after : Array Edge} {gd : Option (Nat × Bool)} {rest : List Oper} {G : Gh}
theorem elem_st (hG : GOK X ob G w) (hs0 : X.w0.heap.size ≤ w.heap.size) {k i b n c : Nat} {f : List Nat} {e : TypeId} {ts : Tys} {xs : List ts.den} {y : ts.den} {VS : List Value} {cur0 : Array Value} (hg : G[k]? = some (.slice (some ⟨b, 0, none⟩) n c, f)) (ho : ob[k]? = some (.arr false e ts xs)) (hi : i < xs.length) (hR : RSs w (okG X.Z G) ts y VS) (hh0 : w.heap[b]? = some (.cells cur0 e (0, 0))) :
    ∃ G', St X (ob.set k (.arr false e ts (xs.set i y))) G G' [k] w (w.setRow b (putl cur0.toList (i * ts.sz) VS).toArray) := by
    have hor := hG.ob k _ _ ho hg
    simp only [OR] at hor
    obtain ⟨inner, hown, hel, hf⟩ := hor
    have hl := RSs_len ts y _ hR
    obtain ⟨hlen, h | ⟨b', cap, cur, he, hb0, hh, hnc, hcm, hcs, htk⟩⟩ := hown
    · cases h.1
    · simp only [Value.slice.injEq, Option.some.injEq, Addr.mk.injEq, and_true] at he
      obtain ⟨rfl, rfl, rfl⟩ := he
      obtain rfl : cur = cur0 := by rw [hh] at hh0; simpa using hh0
      have hi1 : (i + 1) * ts.sz ≤ xs.length * ts.sz := Nat.mul_le_mul_right _ hi
      rw [Nat.add_mul, Nat.one_mul] at hi1
      have hc1 : xs.length * ts.sz ≤ c * ts.sz := Nat.mul_le_mul_right _ hnc
      have hput : i * ts.sz + VS.length ≤ cur.toList.length := by rw [hl, Array.length_toList, hcs]; omega
      have hK : Kp (fps G) w (w.setRow b (putl cur.toList (i * ts.sz) VS).toArray) := kp_setRow.mono (fun z hz _ => by simp only [List.mem_singleton] at hz; subst hz; exact fps_mem hg (by rw [hf]; simp [Value.ownBlock]))
      have hkeep : ∀ (j : Nat) (gi : Value × List Nat), j ≠ k → G[j]? = some gi → ∀ z ∈ gi.2, (w.setRow b (putl cur.toList (i * ts.sz) VS).toArray).heap[z]? = w.heap[z]? := fun j gi hjk hj z hz =>
        setRow_other w b z _ (fun e' => nodup_apart hG.nodup j k gi _ hjk hj hg z hz (by rw [hf, e']; simp [Value.ownBlock]))
      have hsub : ∀ z ∈ fps (G.set k (.slice (some ⟨b, 0, none⟩) xs.length c, f)), z ∈ fps G ∨ w.heap.size ≤ z := by
        have : G.set k (.slice (some ⟨b, 0, none⟩) xs.length c, f) = G := by
          apply List.ext_getElem?
          intro j
          by_cases hjk : j = k
          · subst hjk; rw [List.getElem?_set_self (List.getElem?_eq_some_iff.1 hg).1, hg]
          · rw [List.getElem?_set_ne (Ne.symm hjk)]
        rw [this]
        exact fun z hz => .inl hz
      have m := mv_step (X := X) hK (G' := G.set k (.slice (some ⟨b, 0, none⟩) xs.length c, f)) (fun j v' g h => by
          by_cases hjk : j = k
          · subst hjk
            rw [hg] at h
            simp only [Option.some.injEq, Prod.mk.injEq] at h
            exact ⟨f, by rw [List.getElem?_set_self (List.getElem?_eq_some_iff.1 hg).1, h.1]⟩
          · exact ⟨g, by rw [List.getElem?_set_ne (Ne.symm hjk)]; exact h⟩) hsub
      obtain ⟨g1, g2, g3⟩ := gok_set hG hs0 hg (o := .arr false e ts (xs.set i y)) hK hkeep (by rw [hf]; simp [Value.ownBlock]) (fun z hz => ⟨by rw [setRow_size]; exact (hG.lt z (fps_mem hg hz)).1, .inl hz⟩) (by
        simp only [OR]
        have hil : inner.length = xs.length * ts.sz := hlen
        refine ⟨putl inner (i * ts.sz) VS, ⟨by rw [putl_len (by rw [hl, hil]; exact hi1), hil, List.length_set], .inr ⟨b, c, _, by rw [List.length_set], Nat.zero_le _, setRow_heap w b _ _ _ _ hh, by rw [List.length_set]; exact hnc, hcm, by rw [List.size_toArray, putl_len hput, Array.length_toList, hcs], ?_⟩⟩, fun j z hj => ?_, by rw [hf]⟩
        · rw [List.length_set]
          apply List.ext_getElem?
          intro q
          rw [List.getElem?_take, putl_get hput, putl_get (by rw [hl, hil]; exact hi1), ← htk, List.getElem?_take, hl]
          (repeat' split) <;> first | rfl | omega
        · by_cases hji : j = i
          · subst hji
            rw [List.getElem?_set_self hi] at hj
            simp only [Option.some.injEq] at hj
            subst hj
            have : chunk ts.sz j (putl inner (j * ts.sz) VS) = VS := by
              apply List.ext_getElem?
              intro q
              by_cases hq : q < ts.sz
              · rw [chunk_get hq, putl_get (by rw [hl, hil]; exact hi1), if_neg (by omega), if_pos (by omega)]
                congr 1; omega
              · rw [List.getElem?_eq_none (by unfold chunk; rw [List.length_take]; omega), List.getElem?_eq_none (by omega)]
            rw [this]
            exact RSs_mono m.size m.ok ts y _ hR
          · rw [List.getElem?_set_ne (Ne.symm hji)] at hj
            have hjl := (List.getElem?_eq_some_iff.1 hj).1
            have : chunk ts.sz j (putl inner (i * ts.sz) VS) = chunk ts.sz j inner := by
              apply List.ext_getElem?
              intro q
              by_cases hq : q < ts.sz
              · rw [chunk_get hq, chunk_get hq, putl_get (by rw [hl, hil]; exact hi1), hl]
                rcases Nat.lt_or_ge j i with h | h
                · have := Nat.mul_le_mul_right ts.sz (show j + 1 ≤ i from h)
                  rw [Nat.add_mul, Nat.one_mul] at this
                  rw [if_pos (by omega)]
                · have := Nat.mul_le_mul_right ts.sz (show i + 1 ≤ j by omega)
                  rw [Nat.add_mul, Nat.one_mul] at this
                  rw [if_neg (by omega), if_neg (by omega)]
              · rw [List.getElem?_eq_none (by unfold chunk; rw [List.length_take]; omega), List.getElem?_eq_none (by unfold chunk; rw [List.length_take]; omega)]
            rw [this]
            exact RSs_mono m.size m.ok ts z _ (hel j z hj))
      exact ⟨_, st_set hg (kp_setRow.mono (fun z hz _ => by simp only [List.mem_singleton] at hz; subst hz; exact (pick_one hg).2 (by rw [hf]; simp [Value.ownBlock]))) g1 (fun z hz => .inl hz)⟩

/-- One cell of an element. -/
inductive PutC : (ts : Tys) → Nat → (t : Ty) → t.den → ts.den → ts.den → Prop
  | z {t : Ty} {ts : Tys} {x v : t.den} {xs : ts.den} : PutC (.cons t ts) 0 t v (x, xs) (v, xs)
  | s {t t' : Ty} {ts : Tys} {off : Nat} {v : t'.den} {x : t.den} {xs ys : ts.den} (h : PutC ts off t' v xs ys) : PutC (.cons t ts) (off + 1) t' v (x, xs) (x, ys)
theorem putc_ok {ok : Nat → Prop} {ts : Tys} {off : Nat} {t : Ty} {v : t.den} {x y : ts.den} (h : PutC ts off t v x y) : ∀ {cs : List Value} {u : Value}, RSs w ok ts x cs → RS w ok t v u → off < cs.length ∧ RSs w ok ts y (cs.set off u) := by
  induction h with
  | z =>
    intro cs u h1 h2
    simp only [RSs] at h1 ⊢
    obtain ⟨v', cs', rfl, h3, h4⟩ := h1
    exact ⟨by simp, u, cs', rfl, h2, h4⟩
  | s h ih =>
    intro cs u h1 h2
    simp only [RSs] at h1 ⊢
    obtain ⟨v', cs', rfl, h3, h4⟩ := h1
    obtain ⟨h5, h6⟩ := ih h4 h2
    exact ⟨by simpa using h5, v', _, by rw [List.set_cons_succ], h3, h6⟩
theorem sste1 {t : TypeId} {p x : Operand} {k i off : Nat} {e : TypeId} {ts : Tys} {xs : List ts.den} {ty' : Ty} {v : ty'.den} {y : ts.den} (hp : rd tm p = some (.ep k i ts.sz off)) (ho : ob[k]? = some (.arr false e ts xs)) (hi : i < xs.length)
    (hx : rd tm x = some (.c ty' v)) (hP : PutC ts off ty' v (ix ts.z xs (i : Int)) y) (ht : TI P t false 1) :
    Sto0 P X tm ob [k] (ob.set k (.arr false e ts (xs.set i y))) ⟨none, .store t p x, ty, pos, after, gd⟩ := fun a w G hs0 hG hv => by
  have hA := hv p _ hp
  simp only [VR] at hA
  obtain ⟨b, n, c, f, hg, hA⟩ := hA
  have hor := hG.ob k _ _ ho hg
  simp only [OR] at hor
  obtain ⟨inner, hown, hel, hf⟩ := hor
  have hxv := hv x _ hx
  simp only [VR] at hxv
  obtain ⟨hlen, h | ⟨b', cap, cur, he, hb0, hh, hnc, hcm, hcs, htk⟩⟩ := hown
  · cases h.1
  · simp only [Value.slice.injEq, Option.some.injEq, Addr.mk.injEq, and_true] at he
    obtain ⟨rfl, rfl, rfl⟩ := he
    have hi1 : (i + 1) * ts.sz ≤ xs.length * ts.sz := Nat.mul_le_mul_right _ hi
    have hc1 : xs.length * ts.sz ≤ c * ts.sz := Nat.mul_le_mul_right _ hnc
    have hxi : xs[i]? = some (ix ts.z xs (i : Int)) := by
      rw [List.getElem?_eq_getElem hi]; simp [ix, List.getD_eq_getElem?_getD, hi]
    have hR := hel i _ hxi
    have hcl := RSs_len ts _ _ hR
    obtain ⟨hol, hR2⟩ := putc_ok hP hR hxv
    rw [hcl] at hol
    have hch : chunk ts.sz i inner = chunk ts.sz i cur.toList := by rw [← htk, chunk_take hi1]
    have heq : putl cur.toList (i * ts.sz) ((chunk ts.sz i inner).set off (a.eval x)) = putl cur.toList (i * ts.sz + off) [a.eval x] := by
      rw [Nat.add_mul, Nat.one_mul] at hi1
      apply List.ext_getElem?
      intro q
      rw [putl_get (by rw [List.length_set, hcl, Array.length_toList, hcs]; omega), putl_get (by simp only [List.length_cons, List.length_nil]; rw [Array.length_toList, hcs]; omega), List.length_set, hcl]
      simp only [List.length_cons, List.length_nil]
      by_cases h1 : q < i * ts.sz
      · rw [if_pos h1, if_pos (by omega)]
      · rw [if_neg h1]
        by_cases h2 : q < i * ts.sz + ts.sz
        · rw [if_pos h2]
          by_cases h3 : q = i * ts.sz + off
          · rw [h3, if_neg (by omega), if_pos (by omega), Nat.add_sub_cancel_left, Nat.sub_self, List.getElem?_set_self (by rw [hcl]; exact hol)]; rfl
          · rw [List.getElem?_set_ne (by omega), hch, chunk_get (by omega), show i * ts.sz + (q - i * ts.sz) = q by omega]
            by_cases h4 : q < i * ts.sz + off
            · rw [if_pos h4]
            · rw [if_neg h4, if_neg (by omega)]
        · rw [if_neg h2, if_neg (by omega), if_neg (by omega)]
    obtain ⟨G', hst⟩ := elem_st hG hs0 hg ho hi hR2 hh
    rw [heq] at hst
    rw [Nat.add_mul, Nat.one_mul] at hi1
    have hone := RS_one ty' v _ hxv
    have hvc : (a.eval x).cells = ⟨[a.eval x]⟩ := by cases hq : a.eval x <;> simp_all [Value.cells, Value.oneCell']
    have hrun := run_storeAt_put (P := P) (t := t) (v := a.eval x) (vs := [a.eval x]) (off := i * ts.sz + off) hh hvc (by simp only [List.length_cons, List.length_nil]; rw [hcs]; omega) (by intro u hu; rw [List.mem_singleton] at hu; subst hu; exact hone) ht.sz
    refine ⟨_, _, ?_, hst⟩
    simp only [execOp, Sem.run_bind, hA, hrun, Result.andThen_ok, Sem.run_pure]
end
end Go.Proofs.YtifpekpmnlcmoaaE
