/- The engine, part 18: what strings.Builder's methods use: pointers compared, turned, bytes of a text appended. -/
import Derived.Test.YtifpekpmnlcmoaaE17
import Derived.Lib.AppendStr
import Derived.Lib.Builder
import Derived.Laws.Externs
set_option linter.unusedVariables false
set_option linter.unusedSimpArgs false
namespace Go.Proofs.YtifpekpmnlcmoaaE
open Go Go.RowKit

theorem h1 {H : List Value} (hH : H.length = 1) {r : List Nat} : ∀ k, k < H.length → (0 :: r)[k]? = some k := fun k hk => by
  have : k = 0 := by omega
  subst this; rfl
section
variable {P : Program} {X : Cx} {Q : Exit → Act → World → Prop} {tm : Tm} {ob : List Ob} {a : Act} {w : World} {G : Gh}
variable {ops : Array Oper} {rest : List Oper} {dst : Option Nat} {d : Nat} {ty : TypeId} {pos : String} {after : Array Edge} {gd : Option (Nat × Bool)}

theorem eq_ptr_nil {xt e : TypeId} {A : Option Addr} (ht : P.underlying xt = some (.pointer e)) : (Op.equal xt (.pointer A) (.pointer none)).run P w = .ok A.isNone w := by
  show (Op.equalIn (9999 + 1) xt (.pointer A) (.pointer none)).run P w = _
  unfold Op.equalIn
  cases A <;> simp only [Sem.run_bind, run_underlying ht, Result.andThen_ok, Sem.run_pure, Option.isNone]
theorem peqn {x : Operand} {xt yt e : TypeId} (hx : rd tm x = some .np) (ht : P.underlying xt = some (.pointer e)) : Val P X tm ob ⟨dst, .binOp .eql xt x (.const (.pointer none)) yt, ty, pos, after, gd⟩ (.c .b true) := fun a w G hG hv => by
  have h := hv x _ hx
  simp only [VR] at h
  exact ⟨.bool true, fun w' _ => run_bin (v := .pointer none) h rfl guard_ptr (by simp only [binOp, Sem.run_bind, eq_ptr_nil ht, Result.andThen_ok, Sem.run_pure]; rfl), vrb⟩
theorem peqb {x : Operand} {xt yt e : TypeId} {k off : Nat} (hx : rd tm x = some (.bp k off)) (ht : P.underlying xt = some (.pointer e)) : Val P X tm ob ⟨dst, .binOp .eql xt x (.const (.pointer none)) yt, ty, pos, after, gd⟩ (.c .b false) := fun a w G hG hv => by
  have h := hv x _ hx
  simp only [VR] at h
  obtain ⟨b, f, _, h⟩ := h
  exact ⟨.bool false, fun w' _ => run_bin (v := .pointer none) h rfl guard_ptr (by simp only [binOp, Sem.run_bind, eq_ptr_nil ht, Result.andThen_ok, Sem.run_pure]; rfl), vrb⟩
theorem pneb {x y : Operand} {xt yt e : TypeId} {k off : Nat} (hx : rd tm x = some (.bp k off)) (hy : rd tm y = some (.bp k off)) (ht : P.underlying xt = some (.pointer e)) (n : Nat) (hs : ∀ w : World, (sizeOf e).run P w = .ok (n + 1) w) :
    Val P X tm ob ⟨dst, .binOp .neq xt x y yt, ty, pos, after, gd⟩ (.c .b false) := fun a w G hG hv => by
  have h := hv x _ hx
  have h' := hv y _ hy
  simp only [VR] at h h'
  obtain ⟨b, f, hg, h⟩ := h
  obtain ⟨b', f', hg', h'⟩ := h'
  rw [hg] at hg'
  simp only [Option.some.injEq, Prod.mk.injEq, Value.pointer.injEq, Addr.mk.injEq, and_true] at hg'
  obtain ⟨rfl, _⟩ := hg'
  have e1 : ∀ w : World, (Op.equal xt (.pointer (some ⟨b, off, none⟩)) (.pointer (some ⟨b, off, none⟩))).run P w = .ok true w := fun w => by
    show (Op.equalIn (9999 + 1) xt _ _).run P w = _
    unfold Op.equalIn
    simp only [Sem.run_bind, run_underlying ht, Result.andThen_ok, hs, ne_eq, Nat.add_one_ne_zero, not_false_eq_true, if_true, sameAddr, beq_self_eq_true, Sem.run_pure]
  exact ⟨.bool false, fun w' _ => run_bin h h' guard_ptr (by simp only [binOp, Sem.run_bind, e1, Result.andThen_ok, Sem.run_pure]; rfl), vrb⟩
theorem box_shape (hG : GOK X ob G w) {k b : Nat} {f : List Nat} {bt : TypeId} {cells : List AV} (ho : ob[k]? = some (.box bt cells)) (hg : G[k]? = some (.pointer (some ⟨b, 0, none⟩), f)) {w' : World} (hw : Kp X.Z w w') : w'.shape? b = some (bt, cells.length) := by
  have hor := hG.ob k _ _ ho hg
  simp only [OR] at hor
  obtain ⟨b', vs, he, hh, hvs, _⟩ := hor
  simp only [Prod.mk.injEq, Value.pointer.injEq, Option.some.injEq, Addr.mk.injEq, and_true] at he
  obtain ⟨rfl, rfl⟩ := he
  have hlt := (hG.lt b (fps_mem hg (by simp))).1
  have := (hw.block b hlt (hG.z b (fps_mem hg (by simp)))).trans hh
  simp [World.shape?, this, VRs_len hvs]
/-- A pointer, as unsafe.Pointer and back. -/
theorem cvu {src dt t bt : TypeId} {x : Operand} {k off : Nat} {cells : List AV} {n : Nat} (hx : rd tm x = some (.bp k off)) (ho : ob[k]? = some (.box bt cells)) (hs : P.underlying src = some (.pointer t)) (hd : P.underlying dt = some .unsafePointer)
    (ht : (P.info? t).map (·.size) = some (n + 1)) (hoff : off < cells.length) : Val P X tm ob ⟨dst, .convert src dt x, ty, pos, after, gd⟩ (.bp k off) := fun a w G hG hv => by
  have h := hv x _ hx
  have h0 := h
  simp only [VR] at h
  obtain ⟨b, f, hg, h⟩ := h
  obtain ⟨j, hj, hj2⟩ := Option.map_eq_some_iff.1 ht
  refine ⟨a.eval x, fun w' hw => ?_, h0⟩
  have := Lib.run_to_unsafe (P := P) (w := w') ⟨b, off, none⟩ hs hd hj (by omega) (box_shape hG ho hg hw) hoff
  simp only [execOp, h, Sem.run_bind, this, Result.andThen_ok, Sem.run_pure]
theorem cvb {src dt u bt : TypeId} {x : Operand} {k off : Nat} {cells : List AV} {n : Nat} (hx : rd tm x = some (.bp k off)) (ho : ob[k]? = some (.box bt cells)) (hs : P.underlying src = some .unsafePointer) (hd : P.underlying dt = some (.pointer u))
    (hu : (P.info? u).map (·.size) = some n) (hl : liesAt P P.depth bt (cells.length / P.cellsOf bt) off u 1 = true) : Val P X tm ob ⟨dst, .convert src dt x, ty, pos, after, gd⟩ (.bp k off) := fun a w G hG hv => by
  have h := hv x _ hx
  have h0 := h
  simp only [VR] at h
  obtain ⟨b, f, hg, h⟩ := h
  obtain ⟨j, hj, hj2⟩ := Option.map_eq_some_iff.1 hu
  refine ⟨a.eval x, fun w' hw => ?_, h0⟩
  have := Lib.run_from_unsafe (P := P) (w := w') ⟨b, off, none⟩ hs hd hj (box_shape hG ho hg hw) hl
  simp only [execOp, h, Sem.run_bind, this, Result.andThen_ok, Sem.run_pure]
/-- A function of the model's own that hands back what it gets. -/
theorem cid {f : Nat} {x : Operand} {av : AV} {ats : Array TypeId} (hx : rd tm x = some av) (he : ∀ (v : Value) (w : World), (callFunc f #[v]).run P w = .ok (.value v) w) :
    Val P X tm ob ⟨dst, .call { callee := .value (.func f), args := #[x], argTypes := ats }, ty, pos, after, gd⟩ av := fun a w G hG hv =>
  ⟨a.eval x, fun w' _ => by
    simp [execOp, resolve, invoke, Deferred.ofValue, Act.eval]
    exact he _ _, hv x _ hx⟩

theorem asnz {v : Value} : Val P X tm ob ⟨dst, .assign (.const v), ty, pos, after, gd⟩ .z := fun a w G hG hv => ⟨v, fun _ _ => rfl, trivial⟩
theorem mvz {v : Value} : Val P X tm ob ⟨dst, .move (.const v), ty, pos, after, gd⟩ .z := fun a w G hG hv => ⟨v, fun _ _ => rfl, trivial⟩
/-- The end of a function that hands back data, and what it was handed. -/
theorem retk {fn : Func} {rs : List ResultVar} {r : AV × List Ob} {as : List AV} {ob' : List Ob} (ks : List Nat) (hr : fn.results = rs.toArray) (h : Rr P tm ob rs as) (hn : ks.Nodup) (hH : ∀ k, k < X.H.length → ks[k]? = some k) (ho : Wo ob (kf ob.length ks) ks ob')
    (hb : as = AV.rens (kf ob.length ks) as) (he : r = (avres as, ob')) : XV X .ret (bodyPost P fn (RP X r)) tm ob := retg ks hr h hn hH ho hb he
theorem strCells_map (s : List UInt8) : Lib.strCells ⟨⟨s⟩⟩ = s.map bcell := by simp [Lib.strCells, bcell]
structure BI (P : Program) (t e : TypeId) : Prop where
  u : P.underlying t = some (.slice e)
  i : (P.info? e).map (fun i => (i.zero, i.size, i.bytes)) = some (some (.int .u8 0), 1, 1)
theorem run_apps {t u e : TypeId} (hM : BI P t e) (hu : P.underlying u = some .string) {v : Value} {n : Nat} {xs : List Value} (hown : w.ownsRow 0 e 1 v n xs) (s : List UInt8) (hbytes : n + s.length ≤ 140737488355328) :
    ∃ v' w', (Builtin.append_ #[t, u] ty #[v, str s]).run P w = .ok v' w' ∧ w'.ownsRow 0 e 1 v' (n + s.length) (xs ++ s.map bcell) ∧ w.grownBy w' v.ownBlock ∧ (∀ b, v'.ownBlock = some b → v.ownBlock = some b ∨ w.heap.size ≤ b) := by
  obtain ⟨i, hi, hz⟩ := Option.map_eq_some_iff.1 hM.i
  simp only [Prod.mk.injEq] at hz
  obtain ⟨hz, hsize, hby⟩ := hz
  have hs : (⟨⟨s⟩⟩ : ByteArray).size = s.length := by simp [ByteArray.size]
  have h63 : n + s.length ≤ maxLen := by simp only [maxLen]; omega
  have hown' := hown
  have hxl : xs.length = n := by simpa using hown.1
  rcases hown.2 with ⟨rfl, rfl⟩ | ⟨g, cap, cur, rfl, hbg, hg, hnc, hcm, hcs, htake⟩
  · have hx : xs = [] := List.eq_nil_of_length_eq_zero hxl
    subst hx
    obtain ⟨v', w', h2, h3, h4, _⟩ := Lib.run_append_own_string (P := P) (w := w) w.heap.size t u ty e i hM.u hu hi hz hsize hby (.slice none 0 0) 0 [] (World.ownsRow_nil _ _ _ _) ⟨⟨s⟩⟩ (by rw [hs]; exact h63) (by rw [hs]; exact hbytes) (Nat.le_refl _)
    rw [hs, strCells_map] at h3
    refine ⟨v', w', h2, ?_, h4, fun b hb => .inr (h3.lt b hb).1⟩
    obtain ⟨h5, h6⟩ := h3
    exact ⟨h5, h6.imp id (fun ⟨g, cap, cur, e1, _, r⟩ => ⟨g, cap, cur, e1, Nat.zero_le _, r⟩)⟩
  · obtain ⟨v', w', h2, h3, h4, _⟩ := Lib.run_append_own_string (P := P) (w := w) 0 t u ty e i hM.u hu hi hz hsize hby _ n xs hown ⟨⟨s⟩⟩ (by rw [hs]; exact h63) (by rw [hs]; exact hbytes) (Nat.zero_le _)
    rw [hs, strCells_map] at h3
    by_cases hroom : n + s.length ≤ cap
    · have hr := Lib.run_append_room_string (P := P) (w := w) t u ty e i hM.u hu hi hsize g n cap cur hg ⟨⟨s⟩⟩ (by rw [hs]; exact hroom) (by rw [hs, hcs]; omega)
      unfold str
      rw [h2] at hr
      simp only [Result.ok.injEq] at hr
      obtain ⟨e1, e2⟩ := hr
      exact ⟨v', w', h2, h3, h4, fun b hb => .inl (by rw [e1] at hb; simpa [Value.ownBlock] using hb)⟩
    · have holds : ∀ j u, xs[j]? = some u → w.cell? ((⟨g, 0, none⟩ : Addr).add j) = some u := hown.cells (g := g) rfl
      have hr := Lib.run_append_grow_string (P := P) (w := w) t u ty e i (.int .u8 0) hM.u hu hi hz ⟨g, 0, none⟩ n cap xs (by rw [hsize]; simpa [Tys.sz] using hxl) holds ⟨⟨s⟩⟩ (by rw [hs]; omega) (by rw [hs]; omega) (by rw [hs, hby]; exact growslice_fits (by omega) (by omega))
      unfold str
      rw [h2] at hr
      simp only [Result.ok.injEq] at hr
      obtain ⟨e1, e2⟩ := hr
      refine ⟨v', w', h2, h3, h4, fun b hb => .inr ?_⟩
      rw [e1] at hb
      simp [Value.ownBlock] at hb
      omega
/-- append of a text's bytes. -/
theorem sapps {t u e : TypeId} {x y : Operand} {k : Nat} {bs s : List UInt8} 
    (hx : rd tm x = some (.own k)) (ho : ob[k]? = some (.arr false e KB8 (byts bs))) (hy : rd tm y = some (.c .s s)) (hM : BI P t e) (hu : P.underlying u = some .string) (hbytes : bs.length + s.length ≤ 140737488355328) :
    Sto P X tm ob [k] (ob.set k .dead ++ [.arr false e KB8 (byts (bs ++ s))]) ⟨some d, .call { callee := .builtin .append, args := #[x, y], argTypes := #[t, u] }, ty, pos, after, gd⟩ (.own ob.length) := fun a w G hs0 hG hv => by
    have h1 := hv x _ hx
    simp only [VR] at h1
    obtain ⟨g, hg, h1⟩ := h1
    have hor := hG.ob k _ g ho hg
    obtain ⟨gv, gf⟩ := g
    obtain ⟨hown, hf⟩ := arr_bytes hor
    have hor' := hor
    simp only [OR] at hor'
    obtain ⟨inner, hown2, hel, _⟩ := hor'
    have hin : inner = bs.map bcell := by
      have a1 := hown2.2
      have a2 := hown.2
      have l1 := hown2.1
      have l2 := hown.1
      rcases a1 with ⟨_, a1⟩ | ⟨g1, c1, u1, e1, _, b1, _, _, _, t1⟩
      · rw [a1] at l1
        rw [byts_len] at a1
        have : bs = [] := List.eq_nil_of_length_eq_zero a1
        subst this
        exact List.eq_nil_of_length_eq_zero (by simpa using l1)
      · rcases a2 with ⟨e2, _⟩ | ⟨g2, c2, u2, e2, _, b2, _, _, _, t2⟩
        · rw [e2] at e1; cases e1
        · rw [e1] at e2
          simp only [Value.slice.injEq, Option.some.injEq, Addr.mk.injEq, and_true] at e2
          obtain ⟨rfl, _, _⟩ := e2
          rw [b1] at b2
          simp only [Option.some.injEq, Obj.cells.injEq, and_true] at b2
          obtain ⟨rfl, _⟩ := b2
          rw [← t1, ← t2, byts_len]
    obtain ⟨v', w', h2, hrow, hgr, hb⟩ := run_apps (P := P) (ty := ty) hM hu hown s hbytes
    subst hin
    obtain ⟨G', h3⟩ := app_core (ts := KB8) (xs := byts bs) (ys := byts s) (news := s.map bcell) hG hs0 k hown2 hel (fun b hb => ⟨_, hg, by rw [hf]; simp only [hb]; simp⟩) (fun j x hj => bytes_el j x hj) (by rw [byts_len, byts_len]; exact hrow) hgr hb
    rw [← byts_app] at h3
    refine ⟨v', w', G', ?_, h3⟩
    simp only [execOp, resolve, invoke, builtin, Sem.run_bind, Sem.run_pure, Result.andThen_ok, List.map_toArray, List.map_cons, List.map_nil, h1, (vr_s (hv y _ hy)).1, h2]
theorem oapps {t u e : TypeId} {x y : Operand} {k : Nat} {bs s : List UInt8} (hw : Wn ops ⟨some d, .call { callee := .builtin .append, args := #[x, y], argTypes := #[t, u] }, ty, pos, after, gd⟩ tm) (hN : d < X.N) 
    (hx : rd tm x = some (.own k)) (ho : ob[k]? = some (.arr false e KB8 (byts bs))) (hy : rd tm y = some (.c .s s)) (hM : BI P t e) (hu : P.underlying u = some .string) (hbytes : bs.length + s.length ≤ 140737488355328)
    (hr : OV P X ops Q rest ((d, .own ob.length) :: tm) (ob.set k .dead ++ [.arr false e KB8 (byts (bs ++ s))])) : OV P X ops Q (⟨some d, .call { callee := .builtin .append, args := #[x, y], argTypes := #[t, u] }, ty, pos, after, gd⟩ :: rest) tm ob :=
  osto hw hN rfl (sapps hx ho hy hM hu hbytes) hr
end
end Go.Proofs.YtifpekpmnlcmoaaE
