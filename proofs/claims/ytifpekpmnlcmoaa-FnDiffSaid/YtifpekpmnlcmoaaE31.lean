/- The engine, part 31: a copy out of a row of which only the front is known; objects let go. -/
import Derived.Test.YtifpekpmnlcmoaaE30
set_option linter.unusedVariables false
set_option linter.unusedSimpArgs false
namespace Go.Proofs.YtifpekpmnlcmoaaE
open Go Go.RowKit

section
variable {P : Program} {X : Cx} {Q : Exit → Act → World → Prop} {tm tm' : Tm} {ob ob' : List Ob} {a : Act} {w : World} {ops : Array Oper} {d : Nat} {ty : TypeId} {pos : String} {after : Array Edge} {gd : Option (Nat × Bool)} {rest : List Oper} {G : Gh}

theorem scopyp {t e e2 u : TypeId} {m k j lo lo2 n m2 c c2 : Nat} {x y : Operand} {ts : Tys} {xs xs2 : List (Option ts.den)} (ys : List ts.den) (hx : rd tm x = some (.sub k lo n ts.sz)) (ho : ob[k]? = some (.prt e ts xs c)) (hy : rd tm y = some (.sub j lo2 m2 ts.sz)) (ho2 : ob[j]? = some (.prt e2 ts xs2 c2))
    (hd : (xs2.drop lo2).take n = ys.map some) (ht : linfo P t = some (e, m)) (hm : (m == ts.sz) = true) (hl2 : lo2 + m2 ≤ xs2.length) (hnm : n ≤ m2) (h0 : 0 < n) (hl : lo + n ≤ xs.length) (hn : n ≤ 9223372036854775807) :
    Sto P X tm ob [k] (ob.set k (.prt e ts (pblit xs lo ys) c)) ⟨some d, .call { callee := .builtin .copy, args := #[x, y], argTypes := #[t, u] }, ty, pos, after, gd⟩ (.c (.i .i64) (n : Int)) := fun a w G hs0 hG hv => by
  obtain rfl : m = ts.sz := by simpa using hm
  obtain ⟨hu, hsz⟩ := linfo_u ht
  have hyl : ys.length = n := by
    have := congrArg List.length hd
    simp at this; omega
  have hyv := hv y _ hy
  have hxv := hv x _ hx
  simp only [VR] at hyv hxv
  rcases hyv with ⟨rfl, _⟩ | ⟨bs, ns, cs', fs, hgs, hyv⟩
  · omega
  rcases hxv with ⟨rfl, _⟩ | ⟨b, n0, c', f, hg, hxv⟩
  · omega
  obtain ⟨b3, inner3, cur3, hv3, hg3, hc3, hm3, hh3, hcs3, hil3, htk3, hel3⟩ := prt_val (ok := fun _ => True) hG (x := .slice (some ⟨bs, 0, none⟩) ns cs') (k := j) (by simp only [VR]; exact ⟨_, hgs, rfl⟩) ho2
  simp only [Value.slice.injEq, Option.some.injEq, Addr.mk.injEq, and_true] at hv3
  obtain ⟨rfl, rfl, rfl⟩ := hv3
  have hle : (lo2 + m2) * ts.sz ≤ xs2.length * ts.sz := Nat.mul_le_mul_right _ hl2
  have hle2 : xs2.length * ts.sz ≤ cs' * ts.sz := Nat.mul_le_mul_right _ hc3
  have hle3 : (lo2 + n) * ts.sz ≤ (lo2 + m2) * ts.sz := Nat.mul_le_mul_right _ (by omega)
  obtain ⟨news, h1, h2, h3, h4⟩ := part_cells (lo := lo2) (m := n) (ys := ys) (ok := okG X.Z G) hh3 (by omega) hyl (fun q x hq => by
    have hqm := (List.getElem?_eq_some_iff.1 hq).1
    have : xs2[lo2 + q]? = some (some x) := by
      have := congrArg (fun l => l[q]?) hd
      simp only [List.getElem?_take_of_lt (show q < n by omega), List.getElem?_drop, List.getElem?_map, hq, Option.map_some] at this
      exact this
    have := hel3 _ _ this
    rw [← htk3, chunk_take (Nat.mul_le_mul_right _ (by omega))] at this
    exact this)
  rw [hyl] at h1
  have hfc : (Builtin.firstCells ts.sz n (.slice (some ⟨bs, lo2 * ts.sz, none⟩) m2 (cs' - lo2))).run P w = .ok news.toArray w :=
    run_firstCells_some w ts.sz n _ _ _ news h1 (fun j v hj => h2 j v hj)
  obtain ⟨b2, inner, cur, hv2, hg2, hc, hcm, hh, hcs, hil, htk, hel⟩ := prt_val (ok := fun _ => True) hG (x := .slice (some ⟨b, 0, none⟩) n0 c') (k := k) (by simp only [VR]; exact ⟨_, hg, rfl⟩) ho
  simp only [Value.slice.injEq, Option.some.injEq, Addr.mk.injEq, and_true] at hv2
  obtain ⟨rfl, rfl, rfl⟩ := hv2
  have hle4 : (lo + n) * ts.sz ≤ xs.length * ts.sz := Nat.mul_le_mul_right _ hl
  have hle5 : xs.length * ts.sz ≤ c' * ts.sz := Nat.mul_le_mul_right _ hc
  rw [Nat.add_mul] at hle4
  obtain ⟨G2, hst⟩ := put_st (lo := lo) hG hs0 ho hg2 hh hc hcm hcs hil htk hel (pblit xs lo ys) (pblit_len (by omega)) news (by omega) (fun j z hj => by
    rw [pblit_get (by omega)] at hj
    split at hj
    · rename_i hjl
      exact .inl ⟨hj, .inl (Nat.mul_le_mul_right _ hjl)⟩
    · rename_i hjl
      split at hj
      · rename_i hjh
        right
        rw [Option.map_eq_some_iff] at hj
        obtain ⟨z', hz1, hz2⟩ := hj
        cases hz2
        exact ⟨j - lo, by omega, by rw [h1]; exact Nat.mul_le_mul_right _ (by omega), h3 _ _ hz1⟩
      · rename_i hjh
        left
        refine ⟨hj, .inr ?_⟩
        rw [h1, ← Nat.add_mul]
        exact Nat.mul_le_mul_right _ (by omega))
  refine ⟨_, _, G2, ?_, hst, vri (wrap_len (by omega))⟩
  have hst2 := run_storeCells_at P b (lo * ts.sz) e news 0 cur w hh (by omega) (fun u hu => h4 u hu)
  simp only [Nat.add_zero] at hst2
  have hmin : m2.min n = n := Nat.min_eq_right hnm
  simp only [execOp, resolve, invoke, builtin, Builtin.copy_, Sem.run_bind, Sem.run_pure, Result.andThen_ok, List.map_toArray, List.map_cons, List.map_nil, hxv, hyv, List.getElem?_toArray, List.getElem?_cons_zero, List.getElem?_cons_succ, run_underlying hu, hsz, Builtin.lenOf, hmin, hfc, hst2, goInt]
  rfl
variable {R : Act → World → Prop} {M : List Nat} {fuel : Nat} {listed : Array Bool}
theorem hget {tm' : Tm} (h : ∀ t av, get tm' t = some av → get tm t = some av) (hr : HV P X ops R M fuel listed tm' ob) : HV P X ops R M fuel listed tm ob := fun a w G hs =>
  hr a w G ⟨hs.n, hs.d, hs.kp, hs.gok, fun t av ht => hs.hv t av (h t av ht)⟩
/-- Two values, in whichever order. -/
theorem hv2 (n m : Nat) {d1 d2 : Nat} {i1 i2 : Op} {ty1 ty2 : TypeId} {p1 p2 : String} {f1 f2 : Array Edge} {av1 av2 : AV} (h1 : Val P X tm ob ⟨some d1, i1, ty1, p1, f1, none⟩ av1) (h2 : Val P X ((d1, av1) :: tm) ob ⟨some d2, i2, ty2, p2, f2, none⟩ av2)
    (h3 : Val P X tm ob ⟨some d2, i2, ty2, p2, f2, none⟩ av2) (h4 : Val P X ((d2, av2) :: tm) ob ⟨some d1, i1, ty1, p1, f1, none⟩ av1) (hr : HV P X ops R M fuel ((listed.setIfInBounds n true).setIfInBounds m true) ((d2, av2) :: (d1, av1) :: tm) ob)
    (hi : ops[n]? = some ⟨some d1, i1, ty1, p1, f1, none⟩ := by rfl) (hj : ops[m]? = some ⟨some d2, i2, ty2, p2, f2, none⟩ := by rfl) (hN : Nat.blt d1 X.N = true := by rfl) (hN2 : Nat.blt d2 X.N = true := by rfl) (hne : (d1 == d2) = false := by rfl) (hnm : (n == m) = false := by rfl)
    (r0 : Region.ready .any ops listed = [n, m] := by kernel_rfl) (r1 : Region.ready .any ops (listed.setIfInBounds n true) = [m] := by kernel_rfl) (r2 : Region.ready .any ops (listed.setIfInBounds m true) = [n] := by kernel_rfl) : HV P X ops R M (fuel + 2) listed tm ob := by
  have hnm' : n ≠ m := by simpa using hnm
  have hne' : d1 ≠ d2 := by simpa using hne
  have hc : (listed.setIfInBounds m true).setIfInBounds n true = (listed.setIfInBounds n true).setIfInBounds m true := Array.setIfInBounds_comm _ _ (Ne.symm hnm')
  refine htwo r0 (hvalx hi (.inl rfl) (L hN) rfl h1 (hone r1 (hvalx hj (.inl rfl) (L hN2) rfl h2 hr))) (hvalx hj (.inl rfl) (L hN2) rfl h3 (hone r2 (hvalx hi (.inl rfl) (L hN) rfl h4 ?_)))
  rw [hc]
  refine hget (fun t av h => ?_) hr
  simp only [get] at h ⊢
  split at h
  · rename_i e
    subst e
    rw [if_neg hne', if_pos rfl]; exact h
  · rename_i e
    split at h
    · rename_i e2; rw [if_pos e2]; exact h
    · rename_i e2; rw [if_neg e2, if_neg e]; exact h

/-- A row of which a part is known, said anew. -/
theorem wpe {k c : Nat} {e : TypeId} {ts : Tys} {xs : List (Option ts.den)} (ys : List (Option ts.den)) (ho : ob[k]? = some (.prt e ts xs c)) (h : xs = ys) : Wk X tm ob tm (ob.set k (.prt e ts ys c)) := by
  subst h
  exact wsay ho (fun _ _ _ _ h => h)
theorem wae {k : Nat} {d : Bool} {e : TypeId} {ts : Tys} {xs : List ts.den} (ys : List ts.den) (ho : ob[k]? = some (.arr d e ts xs)) (h : xs = ys) : Wk X tm ob tm (ob.set k (.arr d e ts ys)) := by
  subst h
  exact wsay ho (fun _ _ _ _ h => h)

/-- The objects one by one. -/
inductive Nm (ob : List Ob) : Nat → List Ob → Prop
  | n {i : Nat} : Nm ob i []
  | c {i : Nat} {o : Ob} {r : List Ob} (h : ob[i]? = some o) (r' : Nm ob (i + 1) r) : Nm ob i (o :: r)
theorem nm_get {ob : List Ob} {i : Nat} {r : List Ob} (h : Nm ob i r) : ∀ j, j < r.length → r[j]? = ob[i + j]? := by
  induction h with
  | n => intro j hj; simp at hj
  | @c i o r h r' ih =>
    intro j hj
    cases j with
    | zero => simp [h]
    | succ j => rw [List.getElem?_cons_succ, ih j (by simpa using hj), show i + 1 + j = i + (j + 1) by omega]
theorem wnorm (h : Nm ob 0 ob') (hl : ob.length = ob'.length) : Wk X tm ob tm ob' := by
  have : ob' = ob := by
    apply List.ext_getElem?
    intro j
    by_cases hj : j < ob'.length
    · rw [nm_get h j hj, Nat.zero_add]
    · rw [List.getElem?_eq_none (by omega), List.getElem?_eq_none (by omega)]
  subst this
  exact .refl

/-- A slot's value, said anew. -/
theorem wsl {t : Nat} {av : AV} (av' : AV) (ht : get tm t = some av) (e : av = av') : Wk X tm ob ((t, av') :: tm) ob := fun a w hs => by
  obtain ⟨G, hG, hv⟩ := hs.ex
  subst e
  refine ⟨hs.n, hs.d, hs.kp, G, hG, fun t' av h => ?_⟩
  simp only [get] at h
  split at h
  · rename_i he
    simp only [Option.some.injEq] at h
    subst he h
    exact hv _ _ ht
  · exact hv t' av h
theorem hsl {t : Nat} {av : AV} (av' : AV) (ht : get tm t = some av) (e : av = av') (hr : HV P X ops R M fuel listed ((t, av') :: tm) ob) : HV P X ops R M fuel listed tm ob := hget (fun t' av'' h => by
  subst e
  simp only [get] at h
  split at h
  · rename_i he; subst he; rw [ht]; exact h
  · exact h) hr
theorem hnorm (h : Nm ob 0 ob') (hl : ob.length = ob'.length) (hr : HV P X ops R M fuel listed tm ob') : HV P X ops R M fuel listed tm ob := by
  have : ob' = ob := by
    apply List.ext_getElem?
    intro j
    by_cases hj : j < ob'.length
    · rw [nm_get h j hj, Nat.zero_add]
    · rw [List.getElem?_eq_none (by omega), List.getElem?_eq_none (by omega)]
  subst this
  exact hr
theorem civ {k : IntKind} {x y : Int} (h : x = y) : AV.c (.i k) x = AV.c (.i k) y := by subst h; rfl
theorem ccv {t : Ty} {x y : t.den} (h : x = y) : AV.c t x = AV.c t y := by subst h; rfl

/-- Objects let go. -/
theorem wdrop (ks : List Nat) : Wk X tm ob tm (kill ks 0 ob ++ [.dead]) := fun a w hs => by
  obtain ⟨G, hG, hv⟩ := hs.ex
  have hst := st_abs (w' := w) hG hs.kp.size ks (g := (undef, [])) (o := .dead) (Kp.refl _ w) List.nodup_nil (fun b hb => by simp at hb) rfl
  have hs2 := sg_st ⟨hs.n, hs.d, hs.kp, hG, hv⟩ hst
  exact ⟨hs2.n, hs2.d, hs2.kp, _, hs2.gok, hs2.hv⟩
end
end Go.Proofs.YtifpekpmnlcmoaaE
