/- The engine, part 28: rows as rows of rows, parts of elements, bytes as a text, structs compared. -/
import Derived.Test.YtifpekpmnlcmoaaE27
set_option linter.unusedVariables false
set_option linter.unusedSimpArgs false
namespace Go.Proofs.YtifpekpmnlcmoaaE
open Go Go.RowKit

section
variable {P : Program} {X : Cx} {Q : Exit → Act → World → Prop} {tm tm' : Tm} {ob ob' : List Ob} {a : Act} {w w' : World} {G G' : Gh} {M M' : List Nat}
variable {ops : Array Oper} {rest : List Oper} {dst : Option Nat} {d : Nat} {ty : TypeId} {pos : String} {after : Array Edge} {gd : Option (Nat × Bool)}

theorem set_same {k : Nat} {g : Value × List Nat} (hg : G[k]? = some g) : G.set k g = G := by
  have hkl := (List.getElem?_eq_some_iff.1 hg).1
  apply List.ext_getElem?
  intro i
  by_cases hik : i = k
  · subst hik; rw [List.getElem?_set_self hkl, hg]
  · rw [List.getElem?_set_ne (Ne.symm hik)]
/-- An object told in other words. -/
theorem gok_say (hG : GOK X ob G w) {k : Nat} {o o' : Ob} (ho : ob[k]? = some o) (h : ∀ g, G[k]? = some g → OR w (okG X.Z G) G o g → OR w (okG X.Z G) G o' g) : GOK X (ob.set k o') G w := by
  refine ⟨by rw [List.length_set]; exact hG.len, hG.nodup, hG.lt, hG.z, hG.zl, hG.hd, fun i q g hq hg => ?_⟩
  by_cases hik : i = k
  · subst hik
    rw [List.getElem?_set_self (List.getElem?_eq_some_iff.1 ho).1] at hq
    simp only [Option.some.injEq] at hq
    subst hq
    exact h g hg (hG.ob _ _ g ho hg)
  · rw [List.getElem?_set_ne (Ne.symm hik)] at hq
    exact hG.ob i q g hq hg
theorem wsay {k : Nat} {o o' : Ob} (ho : ob[k]? = some o) (h : ∀ (w : World) (G : Gh) (ok : Nat → Prop) g, OR w ok G o g → OR w ok G o' g) : Wk X tm ob tm (ob.set k o') := fun a w hs => by
  obtain ⟨G, hG, hv⟩ := hs.ex
  exact ⟨hs.n, hs.d, hs.kp, G, gok_say hG ho (fun g _ hr => h w G _ g hr), hv⟩
theorem wdp {k : Nat} {e : TypeId} {ts : Tys} {xs : List ts.den} (ho : ob[k]? = some (.arr false e ts xs)) (hf : (ts.flat || xs.isEmpty) = true) : Wk X tm ob tm (ob.set k (.arr true e ts xs)) :=
  wsay ho (fun w G ok g hr => by
    simp only [OR] at hr ⊢
    obtain ⟨inner, h1, h2, h3⟩ := hr
    refine ⟨inner, List.replicate xs.length [], h1, by simp, fun j x f hj hfj => ?_, by rw [h3, flatten_nil, List.append_nil]⟩
    rw [List.getElem?_replicate] at hfj
    split at hfj
    · simp only [Option.some.injEq] at hfj; subst hfj
      simp only [Bool.or_eq_true, List.isEmpty_iff] at hf
      rcases hf with hf | hf
      · exact RDs_of_flat ts x _ hf (h2 j x hj)
      · subst hf; simp at hj
    · cases hfj)
theorem avs_ren (f : Nat → Nat) : ∀ (n : Nat) (ts : Tys) (x : ts.den), AV.rens f (avs n ts x) = avs n ts x
  | 0, _, _ => rfl
  | _ + 1, .nil, _ => rfl
  | n + 1, .cons t ts, x => by simp only [avs, AV.rens, AV.ren, avs_ren f n ts x.2]
theorem avq {n : Nat} {ts : Tys} {x y : ts.den} {f : Nat → Nat} (h : x = y) : AV.agg (avs n ts x) = AV.ren f (AV.agg (avs n ts y)) := by subst h; simp only [AV.ren, avs_ren]
theorem bldq {T e : TypeId} {xs ys : List UInt8} {f : Nat → Nat} (h : xs = ys) : Ob.bld T e xs = Ob.ren f (Ob.bld T e ys) := by subst h; rfl
/-- A part of an element. -/
theorem ldep {t : TypeId} {x : Operand} {k i off n : Nat} {e : TypeId} {ts : Tys} {xs : List ts.den} (hx : rd tm x = some (.ep k i ts.sz off)) (ho : ob[k]? = some (.arr false e ts xs)) (hi : i < xs.length) (hn : off + n ≤ ts.sz)
    (ht : TI P t true n) : Val P X tm ob ⟨dst, .load t x, ty, pos, after, gd⟩ (.agg (avs n (Tys.drop off ts) (Tys.dropd off ts (ix ts.z xs i)))) := fun a w G hG hv => by
  have hr := hv x _ hx
  simp only [VR] at hr
  obtain ⟨b, m, c, f, hg, hr⟩ := hr
  obtain ⟨hlt, cs, hl, hR, hA⟩ := arr_at hG ho hg (ix_get (z := ts.z) hi)
  have h2 := dropd_ok off ts _ cs (by omega) hR
  have h3 := At_drop hA off
  refine ⟨.agg ⟨(cs.drop off).take n⟩, fun w' hw => run_loadn hr ht (by rw [List.length_take, List.length_drop]; omega) (kp_at hw hlt.1 hlt.2 (At_take h3)), by simp only [VR]; exact ⟨_, rfl, avs_ok (G := G) n _ _ _ h2⟩⟩
/-- nil in a box, from here on data. -/
theorem wnlb {j off : Nat} {bt : TypeId} {cells : List AV} (ts : Tys) (hj : ob[j]? = some (.box bt cells)) (hc : cells[off]? = some .nl) : Wk X tm ob tm (ob.set j (.box bt (cells.set off (.c (.l ts) [])))) :=
  wsay hj (fun w G ok g hr => by
    simp only [OR] at hr ⊢
    obtain ⟨b, vs, h1, h2, h3, h4⟩ := hr
    refine ⟨b, vs, h1, h2, ?_, h4⟩
    obtain ⟨u, hu1, hu2⟩ := VRs_get h3 hc
    have key : ∀ (bs : List AV) (us : List Value) (i : Nat) (v : Value) (av : AV), VRs w ok G bs us → us[i]? = some v → VR w ok G av v → VRs w ok G (bs.set i av) us := by
      intro bs
      induction bs with
      | nil => intro us i v av h _ _; exact h
      | cons x bs ih =>
        intro us i v av h h1 h2
        simp only [VRs] at h
        obtain ⟨u, us', rfl, h3, h4⟩ := h
        cases i with
        | zero =>
          simp only [List.getElem?_cons_zero, Option.some.injEq] at h1
          subst h1
          exact ⟨u, us', rfl, h2, h4⟩
        | succ i => exact ⟨u, us', rfl, h3, ih us' i v av h4 (by simpa using h1) h2⟩
    refine key cells vs off _ _ h3 hu1 ?_
    simp only [VR] at hu2 ⊢
    subst hu2
    simp only [RS]
    exact ⟨none, 0, rfl, Nat.le_refl _, by omega, fun h => absurd rfl h⟩)
end
end Go.Proofs.YtifpekpmnlcmoaaE
