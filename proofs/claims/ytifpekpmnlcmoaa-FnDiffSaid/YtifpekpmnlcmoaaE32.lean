/- The engine, part 32: strings.Join. -/
import Derived.Test.YtifpekpmnlcmoaaE31
import Derived.Shelf.Strings.OnBuilder
set_option linter.unusedVariables false
set_option linter.unusedSimpArgs false
namespace Go.Proofs.YtifpekpmnlcmoaaE
open Go Go.RowKit Go.Shelf Go.Proofs

abbrev KSt : Tys := .cons .s .nil
theorem bjoin {P : Program} {ρ : Ren} (L : Lays.n156 P ρ) (X : Builder.Extra P ρ) (hE : Ent P (ρ.f 156)) : Fe P (ρ.f 156) (ι := List KSt.den × List UInt8) (fun x => [.c (.l KSt) x.1, .c .s x.2]) (fun _ => [])
    (fun x => x.1.length ≤ 140737488355328 ∧ (Lib.join (x.1.map (·.1)) x.2).length ≤ 140737488355328) (fun x => (.c .s (Lib.join (x.1.map (·.1)) x.2), [])) := by
  refine ⟨hE, ?_⟩
  rintro ⟨a, sep⟩ ⟨h1, h2⟩ w G Z vals hG hv
  simp only [] at h1 h2
  have hl := hG.len
  have hG0 : G = [] := List.eq_nil_of_length_eq_zero hl
  subst hG0
  simp only [VRs, VR] at hv
  obtain ⟨u, us, rfl, hu, v, vs, rfl, hs, rfl⟩ := hv
  simp only [RS] at hu hs
  obtain ⟨A, c, rfl, hc, hm, hel⟩ := hu
  obtain ⟨rfl, hs2⟩ := hs
  have fin : ∀ (w' : World) (r : List UInt8), r.length ≤ 140737488355328 → Kp (fps []) w w' → ∃ v' G', (Ending.returned (str r)) = .returned v' ∧ Kp (fps []) w w' ∧
      GOK ⟨w, fps [], ([] : Gh).map (·.1), 0, Z⟩ [] G' w' ∧ VR w' (okG Z G') G' (.c .s r) v' := fun w' r hr hk =>
    ⟨str r, [], rfl, hk, ⟨rfl, by simp [fps], by simp [fps], by simp [fps], hG.zl, fun k u hu => by simp at hu, fun k o g h1 h2 => by simp at h1⟩, vrs (by omega)⟩
  cases a with
  | nil =>
    refine (Any.strings_Join_none L X A c ⟨sep.toArray⟩ w).mono ?_
    rintro e w' ⟨rfl, rfl⟩
    exact fin w' [] (by simp) (Kp.refl _ _)
  | cons x0 r0 =>
    obtain ⟨b, p, rfl, hok, hbs, hel⟩ := hel (by simp)
    have hcells : ∀ (j : Nat) (x : ByteArray), ((x0 :: r0).map (fun x => (⟨x.1.toArray⟩ : ByteArray)))[j]? = some x → w.cell? ⟨b, p + j, none⟩ = some (.string x) := by
      intro j x hj
      rw [List.getElem?_map, Option.map_eq_some_iff] at hj
      obtain ⟨y, hy, rfl⟩ := hj
      obtain ⟨cs, hcs, hat⟩ := hel j y hy
      simp only [RSs, RS] at hcs
      obtain ⟨v, cs', rfl, ⟨rfl, _⟩, rfl⟩ := hcs
      have := hat 0 _ rfl
      simpa [Tys.sz, str] using this
    have hj : ((x0 :: r0).map (fun x => (⟨x.1.toArray⟩ : ByteArray))).map (·.data.toList) = (x0 :: r0).map (·.1) := by simp
    have := Any.strings_Join L X b p c ((x0 :: r0).map (fun x => (⟨x.1.toArray⟩ : ByteArray))) ⟨sep.toArray⟩ w hcells hbs (by simpa using h1) (by simpa using hc) (by rw [hj]; simpa using h2)
    rw [hj] at this
    simp only [List.length_map] at this
    refine this.mono ?_
    rintro e w' ⟨rfl, hb⟩
    exact fin w' _ h2 ((Kp.of_below hb).mono (fun x hx => by simp at hx))
end Go.Proofs.YtifpekpmnlcmoaaE
