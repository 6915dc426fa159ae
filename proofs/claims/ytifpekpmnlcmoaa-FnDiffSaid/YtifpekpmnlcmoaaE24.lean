/- The engine, part 24: parts of a row of the call's own: capacity, cuts, copy, clear, append where it lies. -/
import Derived.Test.YtifpekpmnlcmoaaE23
import Derived.Lib.AppendZerosOnto
import Derived.Lib.Overlaps
set_option linter.unusedVariables false
set_option linter.unusedSimpArgs false
namespace Go.Proofs.YtifpekpmnlcmoaaE
open Go Go.RowKit

/-- A row made shorter or longer: what comes behind is not known. -/
def pext {α : Type} (xs : List (Option α)) (h : Nat) : List (Option α) := xs.take h ++ List.replicate (h - xs.length) none
def pblit {α : Type} (xs : List (Option α)) (lo : Nat) (ys : List α) : List (Option α) := xs.take lo ++ ys.map some ++ xs.drop (lo + ys.length)
theorem pext_len {α : Type} {xs : List (Option α)} {h : Nat} : (pext xs h).length = h := by simp [pext]; omega
theorem pblit_len {α : Type} {xs : List (Option α)} {lo : Nat} {ys : List α} (h : lo + ys.length ≤ xs.length) : (pblit xs lo ys).length = xs.length := by simp [pblit]; omega
theorem pext_get {α : Type} {xs : List (Option α)} {h j : Nat} {x : α} (hj : (pext xs h)[j]? = some (some x)) : xs[j]? = some (some x) ∧ j < h := by
  have hl := (List.getElem?_eq_some_iff.1 hj).1
  rw [pext_len] at hl
  refine ⟨?_, hl⟩
  unfold pext at hj
  rw [List.getElem?_append] at hj
  split at hj
  · rw [List.getElem?_take_of_lt hl] at hj; exact hj
  · rw [List.getElem?_replicate] at hj
    split at hj <;> simp at hj
theorem pblit_get {α : Type} {xs : List (Option α)} {lo j : Nat} {ys : List α} (h : lo + ys.length ≤ xs.length) : (pblit xs lo ys)[j]? = if j < lo then xs[j]? else if j < lo + ys.length then (ys[j - lo]?).map some else xs[j]? := by
  unfold pblit
  have h1 : (xs.take lo).length = lo := by simp; omega
  by_cases hj : j < lo
  · rw [if_pos hj, List.append_assoc, List.getElem?_append_left (by omega), List.getElem?_take_of_lt hj]
  · rw [if_neg hj]
    by_cases hj2 : j < lo + ys.length
    · rw [if_pos hj2, List.getElem?_append_left (by simp; omega), List.getElem?_append_right (by omega), h1, List.getElem?_map]
    · rw [if_neg hj2, List.getElem?_append_right (by simp; omega), List.getElem?_drop]
      congr 1
      simp; omega

section
variable {P : Program} {X : Cx} {Q : Exit → Act → World → Prop} {tm tm' : Tm} {ob ob' : List Ob} {a : Act} {w w' : World} {G G' : Gh} {M M' : List Nat}
variable {ops : Array Oper} {rest : List Oper} {dst : Option Nat} {d : Nat} {ty : TypeId} {pos : String} {after : Array Edge} {gd : Option (Nat × Bool)}

/-- A row of the call's own, as a value. -/
theorem own_val (hG : GOK X ob G w) {x : Value} {k : Nat} {ok : Nat → Prop} (hx : VR w ok G (.own k) x) {dp : Bool} {e : TypeId} {ts : Tys} {xs : List ts.den} (ho : ob[k]? = some (.arr dp e ts xs)) :
    ∃ A c f, x = .slice A xs.length c ∧ xs.length ≤ c ∧ c ≤ 9223372036854775807 ∧ G[k]? = some (.slice A xs.length c, f) ∧ (0 < xs.length → ∃ b, A = some ⟨b, 0, none⟩) := by
  simp only [VR] at hx
  obtain ⟨⟨u, f⟩, hg, rfl⟩ := hx
  obtain ⟨inner, hr⟩ := or_head (hG.ob k _ _ ho hg)
  obtain ⟨A, c, he, hc, hm⟩ := own_form hr
  simp only at he
  subst he
  refine ⟨A, c, f, rfl, hc, hm, hg, fun h => ?_⟩
  rcases hr.2 with ⟨h1, h2⟩ | ⟨g, cap, cur, h1, _⟩
  · omega
  · simp only [Value.slice.injEq] at h1; exact ⟨g, h1.1⟩
theorem prt_val (hG : GOK X ob G w) {x : Value} {k : Nat} {ok : Nat → Prop} (hx : VR w ok G (.own k) x) {e : TypeId} {ts : Tys} {xs : List (Option ts.den)} {c : Nat} (ho : ob[k]? = some (.prt e ts xs c)) :
    ∃ b inner cur, x = .slice (some ⟨b, 0, none⟩) xs.length c ∧ G[k]? = some (.slice (some ⟨b, 0, none⟩) xs.length c, [b]) ∧ xs.length ≤ c ∧ c ≤ 9223372036854775807 ∧ w.heap[b]? = some (.cells cur e (0, 0)) ∧ cur.size = c * ts.sz ∧
      inner.length = xs.length * ts.sz ∧ cur.toList.take (xs.length * ts.sz) = inner ∧ ∀ (j : Nat) (x : ts.den), xs[j]? = some (some x) → RSs w (okG X.Z G) ts x (chunk ts.sz j inner) := by
  simp only [VR] at hx
  obtain ⟨g, hg, rfl⟩ := hx
  have hor := hG.ob k _ _ ho hg
  simp only [OR] at hor
  obtain ⟨b, inner, rfl, hown, hel⟩ := hor
  obtain ⟨hl, h | ⟨b', cap, cur, he, hb0, hh, hnc, hcm, hcs, htk⟩⟩ := hown
  · cases h.1
  · simp only [Value.slice.injEq, Option.some.injEq, Addr.mk.injEq, and_true] at he
    obtain ⟨rfl, _, rfl⟩ := he
    exact ⟨b, inner, cur, rfl, hg, hnc, by simpa only [maxLen] using hcm, hh, hcs, hl, htk, hel⟩

/-- The capacity, told. -/
theorem cprt {cd : Code} {k : Nat} {e : TypeId} {ts : Tys} {xs : List ts.den} (ho : ob[k]? = some (.arr false e ts xs)) (hne : 0 < xs.length)
    (h : ∀ c, xs.length ≤ c → c ≤ 9223372036854775807 → CV P X cd Q tm (ob.set k (.prt e ts (xs.map some) c))) : CV P X cd Q tm ob := fun a w hs => by
  obtain ⟨G, hG, hv⟩ := hs.ex
  have hkl : k < G.length := by rw [hG.len]; exact (List.getElem?_eq_some_iff.1 ho).1
  have hg : G[k]? = some (G[k].1, G[k].2) := List.getElem?_eq_getElem hkl
  have hor := hG.ob k _ _ ho hg
  have hor0 := hor
  simp only [OR] at hor
  obtain ⟨inner, hown, hel, hf⟩ := hor
  have hown' := hown
  rcases hown.2 with ⟨_, h0⟩ | ⟨b, c, cur, he, hb0, hh, hnc, hcm, hcs, htk⟩
  · omega
  · refine h c hnc (by simpa only [maxLen] using hcm) a w ?_
    have hset : G.set k (G[k].1, G[k].2) = G := by
      apply List.ext_getElem?
      intro i
      by_cases hik : i = k
      · subst hik; rw [List.getElem?_set_self hkl, hg]
      · rw [List.getElem?_set_ne (Ne.symm hik)]
    obtain ⟨g1, g2, g3⟩ := gok_set (f' := G[k].2) (o := .prt e ts (xs.map some) c) hG hs.kp.size hg (Kp.refl _ w) (fun _ _ _ _ _ _ => rfl) (nodup_each hG.nodup k _ hg) (fun b hb => ⟨(hG.lt b (fps_mem hg hb)).1, .inl hb⟩) (by
      rw [hset]
      simp only [OR, List.length_map]
      refine ⟨b, inner, Prod.ext he (by rw [hf, he]; simp [Value.ownBlock]), by rw [← he]; exact hown', fun j x hj => ?_⟩
      rw [List.getElem?_map, Option.map_eq_some_iff] at hj
      obtain ⟨y, hy, hyx⟩ := hj
      cases hyx
      exact hel j _ hy)
    rw [hset] at g1
    exact ⟨hs.n, hs.d, hs.kp, G, g1, hv⟩
/-- All of it known again. -/
theorem parr {k : Nat} {e : TypeId} {ts : Tys} {xs : List (Option ts.den)} {c : Nat} (ys : List ts.den) (ho : ob[k]? = some (.prt e ts xs c)) (hy : xs = ys.map some) : Wk X tm ob tm (ob.set k (.arr false e ts ys)) := fun a w hs => by
  subst hy
  obtain ⟨G, hG, hv⟩ := hs.ex
  have hkl : k < G.length := by rw [hG.len]; exact (List.getElem?_eq_some_iff.1 ho).1
  have hg : G[k]? = some (G[k].1, G[k].2) := List.getElem?_eq_getElem hkl
  have hor := hG.ob k _ _ ho hg
  simp only [OR, List.length_map] at hor
  obtain ⟨b, inner, he, hown, hel⟩ := hor
  have hset : G.set k (G[k].1, G[k].2) = G := by
    apply List.ext_getElem?
    intro i
    by_cases hik : i = k
    · subst hik; rw [List.getElem?_set_self hkl, hg]
    · rw [List.getElem?_set_ne (Ne.symm hik)]
  obtain ⟨g1, g2, g3⟩ := gok_set (f' := G[k].2) (o := .arr false e ts ys) hG hs.kp.size hg (Kp.refl _ w) (fun _ _ _ _ _ _ => rfl) (nodup_each hG.nodup k _ hg) (fun b hb => ⟨(hG.lt b (fps_mem hg hb)).1, .inl hb⟩) (by
    rw [hset]
    simp only [Prod.mk.injEq] at he
    simp only [OR]
    refine ⟨inner, by rw [he.1]; exact hown, fun j x hj => hel j x (by rw [List.getElem?_map, hj]; rfl), by rw [he.1, he.2]; simp [Value.ownBlock]⟩)
  rw [hset] at g1
  exact ⟨hs.n, hs.d, hs.kp, G, g1, hv⟩

/-- cap -/
theorem capp {x : Operand} {at_ e e' : TypeId} {n k c : Nat} {ts : Tys} {xs : List (Option ts.den)} (hx : rd tm x = some (.own k)) (ho : ob[k]? = some (.prt e' ts xs c)) (ht : linfo P at_ = some (e, n)) :
    Val P X tm ob ⟨dst, .call { callee := .builtin .cap, args := #[x], argTypes := #[at_] }, ty, pos, after, gd⟩ (.c (.i .i64) (c : Int)) := fun a w G hG hv => by
  obtain ⟨b, inner, cur, h1, _, _, h2, _⟩ := prt_val hG (hv x _ hx) ho
  refine ⟨_, fun w' _ => ?_, vri (wrap_len h2)⟩
  simp [execOp, resolve, invoke, builtin, Builtin.cap_, h1, run_underlying (linfo_u ht).1, goInt]
theorem lenp {x : Operand} {at_ e e' : TypeId} {n k c : Nat} {ts : Tys} {xs : List (Option ts.den)} (hx : rd tm x = some (.own k)) (ho : ob[k]? = some (.prt e' ts xs c)) (ht : linfo P at_ = some (e, n)) :
    Val P X tm ob ⟨dst, .call { callee := .builtin .len, args := #[x], argTypes := #[at_] }, ty, pos, after, gd⟩ (.c (.i .i64) (xs.length : Int)) := fun a w G hG hv => by
  obtain ⟨b, inner, cur, h1, _, h3, h2, _⟩ := prt_val hG (hv x _ hx) ho
  exact ⟨_, fun w' _ => run_len h1 (linfo_u ht).1, vri (wrap_len (by omega))⟩
/-- A cut that is not used. -/
theorem cutoz {t e e' : TypeId} {m k : Nat} {x y : Operand} {dp : Bool} {ts : Tys} {xs : List ts.den} {kk : IntKind} {l : Int} (hx : rd tm x = some (.own k)) (ho : ob[k]? = some (.arr dp e' ts xs)) (hy : rd tm y = some (.c (.i kk) l)) (ht : linfo P t = some (e, m)) (h0 : 0 ≤ l) (h1 : l ≤ xs.length) :
    Val P X tm ob ⟨dst, .slice t x (some y) none none, ty, pos, after, gd⟩ .z := fun a w G hG hv => by
  obtain ⟨A, c, f, hr, hc, hm, _, _⟩ := own_val hG (hv x _ hx) ho
  refine ⟨sliced A l.toNat xs.length c m, fun w' _ => ?_, trivial⟩
  simp only [execOp, Sem.run_bind, Option.map_some, Option.map_none, hr, (vr_i (hv y _ hy)).1]
  rw [run_sl ht A xs.length c _ _ l.toNat xs.length c (by simp [Instr.sliceBounds, run_sliceBound, h0, h1])]
  simp only [Result.andThen_ok, Sem.run_pure]
/-- Parts. -/
theorem sub_ok {w : World} {ok : Nat → Prop} {k l h n c : Nat} {A : Option Addr} {f : List Nat} {sz : Nat} (hg : G[k]? = some (.slice A n c, f)) (hb : (l < h ∨ l = 0) → ∃ b, A = some ⟨b, 0, none⟩) (hlc : l < h → c ≠ l) : VR w ok G (.sub k l (h - l) sz) (sliced A l h c sz) := by
  simp only [VR, sliced]
  by_cases hlt : l < h ∨ l = 0
  · right
    obtain ⟨b, rfl⟩ := hb hlt
    refine ⟨b, n, c, f, hg, ?_⟩
    split
    · rename_i hcl
      rcases hlt with hlt | rfl
      · exact absurd hcl (hlc hlt)
      · simp
    · rw [Option.map_some, Addr.add_lit, Nat.zero_add]
  · left
    rw [Nat.sub_eq_zero_of_le (by omega)]
    exact ⟨rfl, by omega, _, _, rfl⟩
theorem subl {t e e' : TypeId} {m k : Nat} {x y : Operand} {dp : Bool} {ts : Tys} {xs : List ts.den} {kk : IntKind} {l : Int} (hx : rd tm x = some (.own k)) (ho : ob[k]? = some (.arr dp e' ts xs)) (hy : rd tm y = some (.c (.i kk) l)) (ht : linfo P t = some (e, m)) (hm : (m == ts.sz) = true) (h0 : 0 ≤ l) (h1 : l ≤ xs.length) (hne : 0 < xs.length) :
    Val P X tm ob ⟨dst, .slice t x (some y) none none, ty, pos, after, gd⟩ (.sub k l.toNat (xs.length - l.toNat) ts.sz) := fun a w G hG hv => by
  obtain rfl : m = ts.sz := by simpa using hm
  obtain ⟨A, c, f, hr, hc, hm, hg, hA⟩ := own_val hG (hv x _ hx) ho
  refine ⟨sliced A l.toNat xs.length c ts.sz, fun w' _ => ?_, sub_ok hg (fun q => hA hne) (fun q => by omega)⟩
  simp only [execOp, Sem.run_bind, Option.map_some, Option.map_none, hr, (vr_i (hv y _ hy)).1]
  rw [run_sl ht A xs.length c _ _ l.toNat xs.length c (by simp [Instr.sliceBounds, run_sliceBound, h0, h1])]
  simp only [Result.andThen_ok, Sem.run_pure]
theorem subh {t e e' : TypeId} {m k : Nat} {x y : Operand} {dp : Bool} {ts : Tys} {xs : List ts.den} {kk : IntKind} {h : Int} (hx : rd tm x = some (.own k)) (ho : ob[k]? = some (.arr dp e' ts xs)) (hy : rd tm y = some (.c (.i kk) h)) (ht : linfo P t = some (e, m)) (hm : (m == ts.sz) = true) (h0 : 0 ≤ h) (h1 : h ≤ xs.length) (hne : 0 < xs.length) :
    Val P X tm ob ⟨dst, .slice t x none (some y) none, ty, pos, after, gd⟩ (.sub k 0 h.toNat ts.sz) := fun a w G hG hv => by
  obtain rfl : m = ts.sz := by simpa using hm
  obtain ⟨A, c, f, hr, hc, hm, hg, hA⟩ := own_val hG (hv x _ hx) ho
  refine ⟨sliced A 0 h.toNat c ts.sz, fun w' _ => ?_, sub_ok (l := 0) (h := h.toNat) hg (fun q => hA hne) (fun q => by omega)⟩
  simp only [execOp, Sem.run_bind, Option.map_some, Option.map_none, hr, (vr_i (hv y _ hy)).1]
  rw [run_sl ht A xs.length c _ _ 0 h.toNat c (by simp [Instr.sliceBounds, run_sliceBound, h0, (by omega : h ≤ (c : Int))])]
  simp only [Result.andThen_ok, Sem.run_pure]
theorem psubl {t e e' : TypeId} {m k c : Nat} {x y : Operand} {ts : Tys} {xs : List (Option ts.den)} {kk : IntKind} {l : Int} (hx : rd tm x = some (.own k)) (ho : ob[k]? = some (.prt e' ts xs c)) (hy : rd tm y = some (.c (.i kk) l)) (ht : linfo P t = some (e, m)) (hm : (m == ts.sz) = true) (h0 : 0 ≤ l) (h1 : l ≤ xs.length) :
    Val P X tm ob ⟨dst, .slice t x (some y) none none, ty, pos, after, gd⟩ (.sub k l.toNat (xs.length - l.toNat) ts.sz) := fun a w G hG hv => by
  obtain rfl : m = ts.sz := by simpa using hm
  obtain ⟨b, inner, cur, hr, hg, hc, hm, _⟩ := prt_val hG (hv x _ hx) ho
  refine ⟨sliced (some ⟨b, 0, none⟩) l.toNat xs.length c ts.sz, fun w' _ => ?_, sub_ok hg (fun q => ⟨b, rfl⟩) (fun q => by omega)⟩
  simp only [execOp, Sem.run_bind, Option.map_some, Option.map_none, hr, (vr_i (hv y _ hy)).1]
  rw [run_sl ht _ xs.length c _ _ l.toNat xs.length c (by simp [Instr.sliceBounds, run_sliceBound, h0, h1])]
  simp only [Result.andThen_ok, Sem.run_pure]
theorem psubh {t e e' : TypeId} {m k c : Nat} {x y : Operand} {ts : Tys} {xs : List (Option ts.den)} {kk : IntKind} {h : Int} (hx : rd tm x = some (.own k)) (ho : ob[k]? = some (.prt e' ts xs c)) (hy : rd tm y = some (.c (.i kk) h)) (ht : linfo P t = some (e, m)) (hm : (m == ts.sz) = true) (h0 : 0 ≤ h) (h1 : h ≤ c) :
    Val P X tm ob ⟨dst, .slice t x none (some y) none, ty, pos, after, gd⟩ (.sub k 0 h.toNat ts.sz) := fun a w G hG hv => by
  obtain rfl : m = ts.sz := by simpa using hm
  obtain ⟨b, inner, cur, hr, hg, hc, hm, _⟩ := prt_val hG (hv x _ hx) ho
  refine ⟨sliced (some ⟨b, 0, none⟩) 0 h.toNat c ts.sz, fun w' _ => ?_, sub_ok (l := 0) (h := h.toNat) hg (fun q => ⟨b, rfl⟩) (fun q => by omega)⟩
  simp only [execOp, Sem.run_bind, Option.map_some, Option.map_none, hr, (vr_i (hv y _ hy)).1]
  rw [run_sl ht _ xs.length c _ _ 0 h.toNat c (by simp [Instr.sliceBounds, run_sliceBound, h0, (by omega : h ≤ (c : Int))])]
  simp only [Result.andThen_ok, Sem.run_pure]
theorem psublh {t e e' : TypeId} {m k c : Nat} {x y z : Operand} {ts : Tys} {xs : List (Option ts.den)} {kk kh : IntKind} {l h : Int} (hx : rd tm x = some (.own k)) (ho : ob[k]? = some (.prt e' ts xs c)) (hy : rd tm y = some (.c (.i kk) l)) (hz : rd tm z = some (.c (.i kh) h)) (ht : linfo P t = some (e, m)) (hm : (m == ts.sz) = true) (h0 : 0 ≤ l) (hlh : l ≤ h) (h1 : h ≤ c) :
    Val P X tm ob ⟨dst, .slice t x (some y) (some z) none, ty, pos, after, gd⟩ (.sub k l.toNat (h.toNat - l.toNat) ts.sz) := fun a w G hG hv => by
  obtain rfl : m = ts.sz := by simpa using hm
  obtain ⟨b, inner, cur, hr, hg, hc, hm, _⟩ := prt_val hG (hv x _ hx) ho
  refine ⟨sliced (some ⟨b, 0, none⟩) l.toNat h.toNat c ts.sz, fun w' _ => ?_, sub_ok hg (fun q => ⟨b, rfl⟩) (fun q => by omega)⟩
  have eh : (h.toNat : Int) = h := Int.toNat_of_nonneg (by omega)
  simp only [execOp, Sem.run_bind, Option.map_some, Option.map_none, hr, (vr_i (hv y _ hy)).1, (vr_i (hv z _ hz)).1]
  rw [run_sl ht _ xs.length c _ _ l.toNat h.toNat c (by simp [Instr.sliceBounds, run_sliceBound, h0, (by omega : 0 ≤ h), h1, eh, hlh])]
  simp only [Result.andThen_ok, Sem.run_pure]
theorem lensub {x : Operand} {at_ e : TypeId} {n k lo m sz : Nat} (hx : rd tm x = some (.sub k lo m sz)) (hm : m ≤ 9223372036854775807) (ht : linfo P at_ = some (e, n)) :
    Val P X tm ob ⟨dst, .call { callee := .builtin .len, args := #[x], argTypes := #[at_] }, ty, pos, after, gd⟩ (.c (.i .i64) (m : Int)) := fun a w G hG hv => by
  have h := hv x _ hx
  simp only [VR] at h
  rcases h with ⟨rfl, _, A, c, h⟩ | ⟨b, n', c, f, _, h⟩
  · exact ⟨_, fun w' _ => run_len h (linfo_u ht).1, vri rfl⟩
  · exact ⟨_, fun w' _ => run_len h (linfo_u ht).1, vri (wrap_len hm)⟩

theorem chunk_take {sz j n : Nat} {cur : List Value} (h : (j + 1) * sz ≤ n) : chunk sz j (cur.take n) = chunk sz j cur := by
  apply List.ext_getElem?
  intro i
  by_cases hi : i < sz
  · rw [chunk_get hi, chunk_get hi, List.getElem?_take_of_lt (by rw [Nat.add_mul] at h; omega)]
  · rw [List.getElem?_eq_none (by unfold chunk; rw [List.length_take]; omega), List.getElem?_eq_none (by unfold chunk; rw [List.length_take]; omega)]

/-- s = s[:h], of a row whose capacity is told. -/
theorem spcut {t e e' : TypeId} {m k c : Nat} {x y : Operand} {ts : Tys} {xs : List (Option ts.den)} {kk : IntKind} {h : Int} (hx : rd tm x = some (.own k)) (ho : ob[k]? = some (.prt e' ts xs c)) (hy : rd tm y = some (.c (.i kk) h)) (ht : linfo P t = some (e, m)) (hm : (m == ts.sz) = true) (h0 : 0 ≤ h) (h1 : h ≤ c) :
    Sto P X tm ob [k] (kill [k] 0 ob ++ [.prt e' ts (pext xs h.toNat) c]) ⟨some d, .slice t x none (some y) none, ty, pos, after, gd⟩ (.own ob.length) := fun a w G hs0 hG hv => by
  obtain rfl : m = ts.sz := by simpa using hm
  obtain ⟨b, inner, cur, hr, hg, hc, hm, hh, hcs, hil, htk, hel⟩ := prt_val hG (hv x _ hx) ho
  have hbl : b < w.heap.size := (Array.getElem?_eq_some_iff.1 hh).1
  have hb : ∀ z ∈ ([b] : List Nat), z < w.heap.size ∧ (z ∈ fps (pickG G [k]) ∨ w.heap.size ≤ z) := fun z hz => by
    simp only [List.mem_singleton] at hz; subst hz
    exact ⟨hbl, .inl ((pick_one hg).2 (by simp))⟩
  have hst := st_abs (w' := w) hG hs0 [k] (g := (.slice (some ⟨b, 0, none⟩) h.toNat c, [b])) (o := .prt e' ts (pext xs h.toNat) c) (Kp.refl _ w) (by simp) hb (by
    simp only [OR, pext_len]
    have hle : h.toNat * ts.sz ≤ c * ts.sz := Nat.mul_le_mul_right _ (by omega)
    refine ⟨b, cur.toList.take (h.toNat * ts.sz), rfl, ⟨by rw [List.length_take, Array.length_toList, hcs]; omega, .inr ⟨b, c, cur, rfl, Nat.zero_le _, hh, by omega, by simpa only [maxLen] using hm, hcs, rfl⟩⟩, fun j x' hj => ?_⟩
    obtain ⟨h2, h3⟩ := pext_get hj
    have hjx := (List.getElem?_eq_some_iff.1 h2).1
    have e1 : chunk ts.sz j (cur.toList.take (h.toNat * ts.sz)) = chunk ts.sz j inner := by
      rw [chunk_take (Nat.mul_le_mul_right _ h3), ← htk, chunk_take (Nat.mul_le_mul_right _ hjx)]
    rw [e1]
    exact RSs_mono (Nat.le_refl _) (fun z h4 h5 => abs_ok (Kp.refl _ w) (fun z hz => (hb z hz).2) h4 h5) ts x' _ (hel j x' h2))
  refine ⟨sliced (some ⟨b, 0, none⟩) 0 h.toNat c ts.sz, w, _, ?_, hst, ?_⟩
  · simp only [execOp, Sem.run_bind, Option.map_some, Option.map_none, hr, (vr_i (hv y _ hy)).1]
    rw [run_sl ht _ xs.length c _ _ 0 h.toNat c (by simp [Instr.sliceBounds, run_sliceBound, h0, (by omega : h ≤ (c : Int))])]
    simp only [Result.andThen_ok, Sem.run_pure]
  · simp only [VR]
    refine ⟨_, by rw [← hG.len]; exact kg_last, ?_⟩
    simp only [sliced, Nat.zero_mul, Nat.sub_zero]
    split <;> simp [Addr.add_lit]
/-- s[:h], of a row. -/
theorem scuto {t e e' : TypeId} {m k : Nat} {x y : Operand} {ts : Tys} {xs : List ts.den} {kk : IntKind} {h : Int} (hx : rd tm x = some (.own k)) (ho : ob[k]? = some (.arr false e' ts xs)) (hy : rd tm y = some (.c (.i kk) h)) (ht : linfo P t = some (e, m)) (hm : (m == ts.sz) = true) (h0 : 0 ≤ h) (h1 : h ≤ xs.length) :
    Sto P X tm ob [k] (kill [k] 0 ob ++ [.arr false e' ts (xs.take h.toNat)]) ⟨some d, .slice t x none (some y) none, ty, pos, after, gd⟩ (.own ob.length) := fun a w G hs0 hG hv => by
  obtain rfl : m = ts.sz := by simpa using hm
  obtain ⟨A, c, f, hr, hc, hm, hg, hA⟩ := own_val hG (hv x _ hx) ho
  have hor := hG.ob k _ _ ho hg
  simp only [OR] at hor
  obtain ⟨inner, hown, hel, hf⟩ := hor
  try simp only at hf hown
  have hb : ∀ z ∈ f, z < w.heap.size ∧ (z ∈ fps (pickG G [k]) ∨ w.heap.size ≤ z) := fun z hz => ⟨(hG.lt z (fps_mem hg hz)).1, .inl ((pick_one hg).2 hz)⟩
  have hlen : (xs.take h.toNat).length = h.toNat := by simp; omega
  have hle : h.toNat * ts.sz ≤ xs.length * ts.sz := Nat.mul_le_mul_right _ (by omega)
  have hst := st_abs (w' := w) hG hs0 [k] (g := (.slice A h.toNat c, f)) (o := .arr false e' ts (xs.take h.toNat)) (Kp.refl _ w) (show f.Nodup from nodup_each hG.nodup k (_, f) hg) hb (by
    simp only [OR]
    refine ⟨inner.take (h.toNat * ts.sz), ⟨by rw [List.length_take, hown.1, hlen]; omega, ?_⟩, fun j x' hj => ?_, by rw [hf]; cases A <;> rfl⟩
    · rw [hlen]
      rcases hown.2 with ⟨h2, h3⟩ | ⟨b, cap, cur, he, hb0, hh, hnc, hcm, hcs, htk⟩
      · simp only [Value.slice.injEq] at h2
        obtain ⟨rfl, _, rfl⟩ := h2
        left
        have : h.toNat = 0 := by omega
        rw [this]
        exact ⟨rfl, rfl⟩
      · simp only [Value.slice.injEq] at he
        obtain ⟨rfl, _, rfl⟩ := he
        refine .inr ⟨b, c, cur, rfl, hb0, hh, by omega, hcm, hcs, ?_⟩
        rw [← htk, List.take_take, Nat.min_eq_left hle]
    · have hjl := (List.getElem?_eq_some_iff.1 hj).1
      rw [hlen] at hjl
      rw [List.getElem?_take_of_lt hjl] at hj
      rw [chunk_take (Nat.mul_le_mul_right _ hjl)]
      exact RSs_mono (Nat.le_refl _) (fun z h4 h5 => abs_ok (Kp.refl _ w) (fun z hz => (hb z hz).2) h4 h5) ts x' _ (hel j x' hj))
  refine ⟨sliced A 0 h.toNat c ts.sz, w, _, ?_, hst, ?_⟩
  · simp only [execOp, Sem.run_bind, Option.map_some, Option.map_none, hr, (vr_i (hv y _ hy)).1]
    rw [run_sl ht A xs.length c _ _ 0 h.toNat c (by simp [Instr.sliceBounds, run_sliceBound, h0, (by omega : h ≤ (c : Int))])]
    simp only [Result.andThen_ok, Sem.run_pure]
  · simp only [VR]
    refine ⟨_, by rw [← hG.len]; exact kg_last, ?_⟩
    simp only [sliced, Nat.zero_mul, Nat.sub_zero]
    split
    · rfl
    · cases A with
      | none => rfl
      | some ad => obtain ⟨b', o', s'⟩ := ad; cases s' <;> simp [Addr.add]
end
end Go.Proofs.YtifpekpmnlcmoaaE
