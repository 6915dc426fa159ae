/- The engine, part 19: strings.Builder's String. -/
import Derived.Test.YtifpekpmnlcmoaaE18
import Derived.Shelf.Strings.Builder1
set_option linter.unusedVariables false
set_option linter.unusedSimpArgs false
namespace Go.Proofs.YtifpekpmnlcmoaaE
open Go Go.RowKit Go.Shelf Go.Proofs

theorem byteCells_map (l : List UInt8) : Lib.byteCells l = l.map bcell := by simp [Lib.byteCells, bcell]
set_option maxHeartbeats 1000000 in
set_option maxRecDepth 100000 in
theorem bstr_some {P : Program} {ρ : Ren} (L : Lays.n169 P ρ) (X : Builder.Extra P ρ) (b g cap : Nat) (l : List UInt8) (p : Value) (w : World) (h0 : l ≠ [])
    (hbk : w.heap[b]? = some (.cells #[p, .slice (some ⟨g, 0, none⟩) l.length cap] (ρ.t 72) (0, 0))) (hown : w.ownsRow 0 (ρ.t 5) 1 (.slice (some ⟨g, 0, none⟩) l.length cap) l.length (l.map bcell)) :
    Calls P (ρ.f 169) #[.pointer (some ⟨b, 0, none⟩)] w fun e w' => e = .returned (.string ⟨l.toArray⟩) ∧ w' = w.drew.freeze ⟨g, 0, none⟩ l.length := by
  have hl0 : l.length ≠ 0 := by simpa using h0
  obtain ⟨cur, hg, hnc, hcm, hcs, htake⟩ : ∃ cur, w.heap[g]? = some (.cells cur (ρ.t 5) (0, 0)) ∧ l.length ≤ cap ∧ cap ≤ maxLen ∧ cur.size = cap * 1 ∧ cur.toList.take (l.length * 1) = l.map bcell := by
    rcases hown.2 with ⟨_, hz⟩ | ⟨g', cap', cur, hv, _, r⟩
    · exact absurd hz hl0
    · cases hv
      exact ⟨cur, r⟩
  have c1 : w.drew.cell? ⟨b, 1, none⟩ = some (.slice (some ⟨g, 0, none⟩) l.length cap) := by
    have : w.drew.heap[b]? = some (.cells #[p, .slice (some ⟨g, 0, none⟩) l.length cap] (ρ.t 72) (0, 0)) := hbk
    rw [Lib.cell_of_heap this]; rfl
  have hSD : (Builtin.unsafeSliceData_ #[(ρ.t 37)] (ρ.t 127) #[.slice (some ⟨g, 0, none⟩) l.length cap]).run P w.drew = .ok (.pointer (some ⟨g, 0, none⟩)) w.drew :=
    Lib.run_unsafeSliceData_row _ _ _ _ _ _ (by omega)
  have hUS : (Builtin.unsafeString_ #[(ρ.t 127), (ρ.t 3)] (ρ.t 9) #[.pointer (some ⟨g, 0, none⟩), .int .i64 l.length]).run P w.drew = .ok (.string ⟨l.toArray⟩) (w.drew.freeze ⟨g, 0, none⟩ l.length) := by
    refine Lib.run_unsafeString_row w.drew (ρ.t 127) (ρ.t 3) (ρ.t 9) (ρ.t 5) L.t127 X.cellsByte g cur.size (by have hg' : w.drew.heap[g]? = some (.cells cur (ρ.t 5) (0, 0)) := hg; simp [World.shape?, hg']) l h0 (by omega) (by unfold maxLen at hcm; omega) ?_
    intro j x hx
    have := hown.cells (g := g) rfl j (.int .u8 x.toNat) (by simp [bcell, hx])
    exact this
  have mixed := L.mixed
  have t72 := L.t72; have a72 := L.a72; have z72 := L.z72; have v72 := L.v72; have u72 := run_underlying L.t72
  have t70 := L.t70; have a70 := L.a70; have z70 := L.z70; have v70 := L.v70; have u70 := run_underlying L.t70
  have t37 := L.t37; have a37 := L.a37; have z37 := L.z37; have v37 := L.v37; have u37 := run_underlying L.t37
  have t127 := L.t127; have a127 := L.a127; have z127 := L.z127; have v127 := L.v127; have u127 := run_underlying L.t127
  have t3 := L.t3; have a3 := L.a3; have z3 := L.z3; have v3 := L.v3; have u3 := run_underlying L.t3
  have t9 := L.t9; have a9 := L.a9; have z9 := L.z9; have v9 := L.v9; have u9 := run_underlying L.t9
  have t5 := X.t5; have a5 := X.a5; have z5 := X.z5; have v5 := X.v5; have u5 := run_underlying X.t5
  go_enter L.f169, Body.n169_ntmps ρ
  go_wp2
  go_region_o
  all_goals (go_wp2; go_ret; exact ⟨rfl, rfl⟩)
theorem freeze_kp {w : World} {g n : Nat} : Kp [g] w (w.drew.freeze ⟨g, 0, none⟩ n) := by
  unfold World.freeze
  split
  · exact ⟨rfl, rfl, rfl, Nat.le_refl _, fun _ _ _ => rfl⟩
  · refine ⟨rfl, rfl, rfl, by show w.heap.size ≤ (Array.modify w.heap _ _).size; simp, fun k hk hn => ?_⟩
    simp only [List.mem_singleton] at hn
    show (Array.modify w.heap _ _)[k]? = w.heap[k]?
    rw [Array.getElem?_modify, if_neg (Ne.symm hn)]
theorem bstr {P : Program} {ρ : Ren} (L : Lays.n169 P ρ) (X : Builder.Extra P ρ) (hE : Ent P (ρ.f 169)) : Fe P (ρ.f 169) (ι := List UInt8) (fun _ => [.bp 0 0]) (fun bs => [.bld (ρ.t 72) (ρ.t 5) bs]) (fun bs => bs.length ≤ 9223372036854775807) (fun bs => (.c .s bs, [.dead])) := by
  refine ⟨hE, fun bs hb w G Z vals hG hv => ?_⟩
  have hl := hG.len
  match G, hl with
  | [g0], _ =>
  have hor := hG.ob 0 _ g0 rfl rfl
  simp only [OR] at hor
  obtain ⟨b, p, v, rfl, hh, hp, hown⟩ := hor
  simp only [VRs, VR] at hv
  obtain ⟨u, us, rfl, ⟨b', f', hb', hu⟩, rfl⟩ := hv
  simp only [List.getElem?_cons_zero, Option.some.injEq, Prod.mk.injEq, Value.pointer.injEq, Addr.mk.injEq, and_true] at hb'
  obtain ⟨rfl, _⟩ := hb'
  subst hu
  have fin : ∀ (w' : World), Kp (fps [(.pointer (some ⟨b, 0, none⟩), b :: v.ownBlock.toList)]) w w' → ∃ v' G', (Ending.returned (str bs)) = .returned v' ∧ Kp (fps [(.pointer (some ⟨b, 0, none⟩), b :: v.ownBlock.toList)]) w w' ∧
      GOK ⟨w, fps [(.pointer (some ⟨b, 0, none⟩), b :: v.ownBlock.toList)], [(Value.pointer (some ⟨b, 0, none⟩), b :: v.ownBlock.toList)].map (·.1), 0, Z⟩ [.dead] G' w' ∧ VR w' (okG Z G') G' (.c .s bs) v' := fun w' hk =>
    ⟨str bs, [(.pointer (some ⟨b, 0, none⟩), [])], rfl, hk, ⟨rfl, by simp [fps], by simp [fps], by simp [fps], hG.zl, fun k u hu => by
      cases k with
      | zero => simp only [List.map_cons, List.getElem?_cons_zero, Option.some.injEq] at hu; subst hu; exact ⟨[], rfl⟩
      | succ k => simp at hu, fun k o g h1 h2 => by
      cases k with
      | zero => simp only [List.getElem?_cons_zero, Option.some.injEq] at h1 h2; subst h1 h2; rfl
      | succ k => simp at h1⟩, vrs hb⟩
  have e0 : ∀ (w' : World), Below w.heap.size w w' → Kp (fps [(.pointer (some ⟨b, 0, none⟩), b :: v.ownBlock.toList)]) w w' := fun w' h => (Kp.of_below h).mono (fun x hx => by simp at hx)
  by_cases h0 : bs = []
  · subst h0
    rcases hown.2 with ⟨rfl, _⟩ | ⟨g, cap, cur, rfl, _, hg, hnc, hcm, hcs, htake⟩
    · refine (Any.Builder_String_nil L X w.heap.size b p w hh).mono ?_
      rintro e w' ⟨rfl, hbl⟩
      exact fin w' (e0 w' hbl)
    · by_cases hc : cap = 0
      · subst hc
        refine (Any.Builder_String_noroom L X w.heap.size b g p cur w (Nat.le_refl _) hh hg).mono ?_
        rintro e w' ⟨rfl, hbl⟩
        exact fin w' (e0 w' hbl)
      · refine (Any.Builder_String_room L X w.heap.size b g cap p w hc hh).mono ?_
        rintro e w' ⟨rfl, hbl⟩
        exact fin w' (e0 w' hbl)
  · rcases hown.2 with ⟨_, hz⟩ | ⟨g, cap, cur, rfl, _, hg, _⟩
    · exact absurd (List.eq_nil_of_length_eq_zero hz) h0
    · refine (bstr_some L X b g cap bs p w h0 hh hown).mono ?_
      rintro e w' ⟨rfl, rfl⟩
      exact fin _ (freeze_kp.mono (fun x hx _ => by simp only [List.mem_singleton] at hx; subst hx; simp [fps, Value.ownBlock]))
end Go.Proofs.YtifpekpmnlcmoaaE
