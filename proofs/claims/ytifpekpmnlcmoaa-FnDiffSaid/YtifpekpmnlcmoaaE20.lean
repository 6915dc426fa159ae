/- The engine, part 20: an argument that the row's form has read, as data. -/
import Derived.Test.YtifpekpmnlcmoaaE19
import Derived.WalkKit
import Derived.ProofKit
import Derived.OpenShut
import Derived.ShutString
import Derived.ChangeOld
import Derived.Below
import Derived.SizedLaws
import Derived.ChangeArms
set_option linter.unusedVariables false
set_option linter.unusedSimpArgs false
namespace Go.Proofs.YtifpekpmnlcmoaaE
open Go Go.RowKit

mutual
/-- A type's cells. -/
inductive FT (P : Program) : TypeId → Tys → Prop
  | b {t : TypeId} (h : P.underlying t = some .bool) : FT P t (.cons .b .nil)
  | i {t : TypeId} {k : IntKind} (h : P.underlying t = some (.int k)) : FT P t (.cons (.i k) .nil)
  | s {t : TypeId} (h : P.underlying t = some .string) : FT P t (.cons .s .nil)
  | l {t e : TypeId} {ts : Tys} (h : P.underlying t = some (.slice e)) (hc : P.cellsOf e = ts.sz) (h0 : 0 < ts.sz) (he : FT P e ts) : FT P t (.cons (.l ts) .nil)
  | g {t : TypeId} {fs : Array Field} {ts : Tys} (h : P.underlying t = some (.struct fs)) (hc : P.cellsOf t = ts.sz) (hf : FTs P fs.toList 0 ts) : FT P t ts
/-- A struct's fields, of one cell each. -/
inductive FTs (P : Program) : List Field → Nat → Tys → Prop
  | n {o : Nat} : FTs P [] o .nil
  | c {f : Field} {fs : List Field} {o : Nat} {t : Ty} {ts : Tys} (ho : f.offset = o) (hc : P.cellsOf f.type = 1) (h : FT P f.type (.cons t .nil)) (r : FTs P fs (o + 1) ts) : FTs P (f :: fs) o (.cons t ts)
end

section
variable {H : Type} {enc : TypeId × Value → H} {P : Program} {w : World} {base : Nat} {spare : Nat → Bool} {held : Bool}

theorem wf_wrap {k : IntKind} {n : Int} (h : (Lit.int k n).wf = true) : k.wrap n = n := by
  simp only [Lit.wf, Bool.and_eq_true, decide_eq_true_eq] at h
  cases k <;> simp only [IntKind.min, IntKind.max, IntKind.wrap, IntKind.bits, IntKind.signed] at h ⊢ <;> simp at h ⊢ <;> (repeat' split) <;> omega

theorem cell_lit {a : Addr} {v : Value} (h : w.cell? a = some v) : a.spot = none ∧ a.block < w.heap.size := by
  unfold World.cell? at h
  split at h
  · rename_i hb
    split at h
    · cases h
    · rename_i hs
      exact ⟨by simpa using hs, (Array.getElem?_eq_some_iff.1 hb).1⟩
  · cases h

theorem trod_RS : ∀ (fuel : Nat) (t : TypeId) (ts : Tys), FT P t ts → ∀ (cs : List Value) (x : DataW H × List MemPlace), DataW.trod enc P w base spare held fuel t cs = some x → ∃ xd : ts.den, RSs w (fun _ => True) ts xd cs
  | 0, t, ts, _, cs, x, h => by simp [DataW.trod] at h
  | fuel + 1, t, ts, hF, cs, x, h => by
    cases hF with
    | b ht =>
      obtain ⟨b, rfl, _⟩ := DataW.trod_bool ht h
      exact ⟨(b, ()), _, _, rfl, rfl, rfl⟩
    | i ht =>
      obtain ⟨n, rfl, _, hw⟩ := DataW.trod_int ht h
      exact ⟨(n, ()), _, _, rfl, ⟨rfl, wf_wrap hw⟩, rfl⟩
    | s ht =>
      obtain ⟨s, rfl, _, hs⟩ := DataW.trod_string ht h
      refine ⟨(s.data.toList, ()), _, _, rfl, ⟨rfl, ?_⟩, rfl⟩
      have : s.data.toList.length = s.size := Array.length_toList
      rw [this]; simpa [maxLen] using hs
    | @l _ e ts' ht hc h0 he =>
      rcases DataW.trod_slice ht h with ⟨rfl, _⟩ | ⟨a, len, cap, elems, rest, n, hfu, rfl, rfl, hb, hl, hm, hlen, hel, _, _⟩
      · exact ⟨([], ()), _, _, rfl, ⟨none, 0, rfl, Nat.le_refl _, by omega, fun h => absurd rfl h⟩, rfl⟩
      · obtain rfl : fuel = n := by omega
        have each : ∀ i, i < len → ∃ (cs : List Value) (xd : ts'.den), w.cells? base (a.add (i * ts'.sz)) ts'.sz = some cs ∧ RSs w (fun _ => True) ts' xd cs := by
          intro i hi
          have h1 := hel i hi
          rw [hc, List.getElem?_eq_getElem (by omega), Option.bind_eq_some_iff] at h1
          obtain ⟨cs, h2, h3⟩ := h1
          obtain ⟨xd, h4⟩ := trod_RS fuel e ts' he cs _ h3
          exact ⟨cs, xd, h2, h4⟩
        have lst : ∀ m, m ≤ len → ∃ xs : List ts'.den, xs.length = m ∧ ∀ (j : Nat) (x : ts'.den), xs[j]? = some x → ∃ cs, w.cells? base (a.add (j * ts'.sz)) ts'.sz = some cs ∧ RSs w (fun _ => True) ts' x cs := by
          intro m
          induction m with
          | zero => intro _; exact ⟨[], rfl, fun j x hj => by simp at hj⟩
          | succ m ih =>
            intro hm'
            obtain ⟨xs, h1, h2⟩ := ih (by omega)
            obtain ⟨cs, xd, h3, h4⟩ := each m (by omega)
            refine ⟨xs ++ [xd], by simp [h1], fun j x hj => ?_⟩
            by_cases hjm : j < m
            · rw [List.getElem?_append_left (by omega)] at hj
              exact h2 j x hj
            · have hjl := (List.getElem?_eq_some_iff.1 hj).1
              simp [h1] at hjl
              have : j = m := by omega
              subst this
              rw [List.getElem?_append_right (by omega), h1] at hj
              simp at hj
              subst hj
              exact ⟨cs, h3, h4⟩
        obtain ⟨xs, h1, h2⟩ := lst len (Nat.le_refl _)
        refine ⟨(xs, ()), _, _, rfl, ⟨some a, cap, by rw [h1], by omega, by simpa [maxLen] using hm, fun hne => ?_⟩, rfl⟩
        have hpos : 0 < xs.length := List.length_pos_iff.2 hne
        obtain ⟨cs0, h3, h4⟩ := h2 0 xs[0] (List.getElem?_eq_getElem hpos)
        obtain ⟨_, hl0, hc0⟩ := World.cells?_some h3
        have hcell := hc0 0 h0
        have e0 : (a.add (0 * ts'.sz)).add 0 = a := by rw [Nat.zero_mul]; unfold Addr.add; simp
        rw [e0, List.getElem?_eq_getElem (by omega)] at hcell
        obtain ⟨hsp, hlt⟩ := cell_lit hcell
        obtain ⟨b, p, sp⟩ := a
        simp only at hsp
        subst hsp
        refine ⟨b, p, rfl, trivial, hlt, fun j x hj => ?_⟩
        obtain ⟨cs, h5, h6⟩ := h2 j x hj
        obtain ⟨_, hl5, hc5⟩ := World.cells?_some h5
        refine ⟨cs, h6, fun i u hu => ?_⟩
        have hi := (List.getElem?_eq_some_iff.1 hu).1
        have := hc5 i (by omega)
        rw [Addr.add_lit, Addr.add_lit, hu] at this
        exact this
    | @g _ fs _ ht hc hf =>
      obtain ⟨xs, n, hfu, rfl, hlc, hxl, hel⟩ := DataW.trod_struct ht h
      obtain rfl : fuel = n := by omega
      have key : ∀ (l : List Field) (o : Nat) (ts : Tys), FTs P l o ts → (∀ f ∈ l, ∃ x, DataW.trod enc P w base spare held fuel f.type ((cs.drop f.offset).take (P.cellsOf f.type)) = some x) → cs.length = o + ts.sz → ∃ xd : ts.den, RSs w (fun _ => True) ts xd (cs.drop o) := by
        intro l
        induction l with
        | nil =>
          intro o ts hF _ hl
          cases hF
          exact ⟨(), by simp only [RSs]; exact List.drop_eq_nil_of_le (by simp only [Tys.sz] at hl; omega)⟩
        | cons f l ih =>
          intro o ts hF hx hl
          cases hF with
          | @c _ _ _ t ts' ho hc1 hft hr =>
            obtain ⟨x1, hx1⟩ := hx f List.mem_cons_self
            obtain ⟨xd, hxd⟩ := trod_RS fuel f.type _ hft _ _ hx1
            obtain ⟨xr, hxr⟩ := ih (o + 1) ts' hr (fun g hg => hx g (List.mem_cons_of_mem _ hg)) (by simp only [Tys.sz] at hl; omega)
            obtain ⟨xd1, xd2⟩ := xd
            simp only [RSs] at hxd
            obtain ⟨v, cs', hv, h1, rfl⟩ := hxd
            refine ⟨(xd1, xr), ?_⟩
            simp only [RSs]
            refine ⟨v, cs.drop (o + 1), ?_, h1, hxr⟩
            rw [ho, hc1] at hv
            have hol : o < cs.length := by simp only [Tys.sz] at hl; omega
            rw [List.drop_eq_getElem_cons hol] at hv ⊢
            simp only [List.take_succ_cons, List.take_zero, List.cons.injEq, and_true] at hv
            rw [hv]
      obtain ⟨xd, hxd⟩ := key fs.toList 0 ts hf (fun f hf' => by
        obtain ⟨i, hi⟩ := List.getElem?_of_mem hf'
        have hi' : fs[i]? = some f := by simpa using hi
        have hil : i < xs.length := by rw [hxl]; exact (Array.getElem?_eq_some_iff.1 hi').1
        exact ⟨xs[i], by rw [hel i f hi', List.getElem?_eq_getElem hil]⟩) (by rw [hlc, hc]; omega)
      exact ⟨xd, by simpa using hxd⟩
end
section
variable {P : Program} {w : World}
theorem gok0 : GOK ⟨w, fps [], ([] : Gh).map (·.1), 0, []⟩ [] [] w :=
  ⟨rfl, by simp [fps], by simp [fps], by simp [fps], by simp, fun k v h => by simp at h, fun k o g h _ => by simp at h⟩
/-- A law's walk, as the row asks for it. -/
theorem row_walk {f : Nat} {ι : Type} {av : ι → List AV} {pre : ι → Prop} {F : ι → AV × List Ob} (hF : Fe P f av (fun _ => []) pre F) (x : ι) (hx : pre x) (hFx : F x = (.c .b true, [])) {vals : List Value} (hv : VRs w (okG [] []) [] (av x) vals) :
    Calls P f ⟨vals⟩ w fun e w' => e = .returned (.bool true) ∧ Below w.heap.size w w' := by
  refine (hF.2 x hx w [] [] vals gok0 hv).mono ?_
  rintro e w' ⟨v, G', rfl, hk, _, hr⟩
  rw [hFx] at hr
  exact ⟨by rw [vr_b hr], Kp.below (by simpa [fps] using hk)⟩
theorem arg_VR {t : TypeId} {sy : Ty} {H : Type} {enc : TypeId × Value → H} {base : Nat} {spare : Nat → Bool} {held : Bool} {v : Value} {d : DataW H} {ps : List MemPlace} (hF : FT P t (.cons sy .nil)) (h : DataW.Trod enc P w base spare held t v d ps) (hc : v.cells.toList = [v]) : ∃ x : sy.den, VR w (okG [] []) [] (.c sy x) v := by
  obtain ⟨fuel, h⟩ := h
  obtain ⟨xd, h1⟩ := trod_RS fuel t _ hF _ _ h
  obtain ⟨x, u⟩ := xd
  rw [hc] at h1
  simp only [RSs] at h1
  obtain ⟨v', cs, he, h2, _⟩ := h1
  simp only [List.cons.injEq] at he
  obtain ⟨rfl, _⟩ := he
  refine ⟨x, ?_⟩
  simp only [VR]
  exact RS_mono (Nat.le_refl _) (fun b _ _ => ⟨⟨by simp [fps], by simp⟩, rfl⟩) sy x v h2
theorem arg_len {t e : TypeId} {ts : Tys} {H : Type} {enc : TypeId × Value → H} {base : Nat} {spare : Nat → Bool} {held : Bool} {v : Value} {d : DataW H} {ps : List MemPlace} {tl : List TypeId} {ds : List (DataW H)} {j : Nat} {xs : List ts.den} {ok : Nat → Prop}
    (hu : P.underlying t = some (.slice e)) (hb : 0 < P.bytesOf e) (h : DataW.Trod enc P w base spare held t v d ps) (hc : v.cells.toList = [v]) (hs : (DataW.weightsEach P tl ds).all (· ≤ reachBytes) = true) (ht : tl[j]? = some t) (hd : ds[j]? = some d) (hx : VR w ok [] (.c (.l ts) xs) v) : xs.length ≤ 140737488355328 := by
  obtain ⟨fuel, h⟩ := h
  rw [hc] at h
  simp only [VR, RS] at hx
  obtain ⟨A, c, rfl, _⟩ := hx
  rcases DataW.trod_slice hu h with ⟨h1, _⟩ | ⟨a, len, cap, elems, rest, n, hfu, h1, h2, _, _, _, hlen, _⟩
  · simp only [List.cons.injEq, Value.slice.injEq, and_true] at h1
    have := h1.2.1; omega
  · simp only [List.cons.injEq, Value.slice.injEq, and_true] at h1
    have h3 := h1.2.1
    have hd2 : d = .slice (elems.map (·.1)) (rest.map (·.1)) := by
      have := congrArg Prod.fst h2
      simpa using this
    subst hd2
    have := sized_slice hs ht hd hu
    simp only [List.length_map] at this
    have h4 : elems.length * 1 ≤ (elems.length + rest.length) * P.bytesOf e := Nat.mul_le_mul (Nat.le_add_right _ _) hb
    have h5 : reachBytes < 2 ^ 47 := reachBytes_lt
    omega
end
end Go.Proofs.YtifpekpmnlcmoaaE
