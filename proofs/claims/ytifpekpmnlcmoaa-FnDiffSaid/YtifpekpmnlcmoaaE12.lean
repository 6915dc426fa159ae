/- The engine, part 12: rows of the call's own: made, written, appended to, shared. -/
import Derived.Test.YtifpekpmnlcmoaaE11
set_option linter.unusedVariables false
set_option linter.unusedSimpArgs false
namespace Go.Proofs.YtifpekpmnlcmoaaE
open Go Go.RowKit

theorem At_app {w : World} {b p : Nat} {a c : List Value} (h1 : At w b p a) (h2 : At w b (p + a.length) c) : At w b p (a ++ c) := fun i u hu => by
  by_cases hi : i < a.length
  · rw [List.getElem?_append_left hi] at hu; exact h1 i u hu
  · rw [List.getElem?_append_right (by omega)] at hu
    have := h2 _ u hu
    rwa [show p + a.length + (i - a.length) = p + i by omega] at this
theorem chunk_left {sz j : Nat} {a b : List Value} (h : (j + 1) * sz ≤ a.length) : chunk sz j (a ++ b) = chunk sz j a := by
  have h' : j * sz + sz ≤ a.length := by rw [Nat.add_mul] at h; omega
  unfold chunk
  rw [List.drop_append_of_le_length (by omega), List.take_append_of_le_length (by simp; omega)]
theorem chunk_right {sz n j : Nat} {a b : List Value} (h : a.length = n * sz) : chunk sz (n + j) (a ++ b) = chunk sz j b := by
  unfold chunk
  rw [Nat.add_mul, ← h, List.drop_length_add_append]
theorem chunk_all {sz : Nat} {a b : List Value} (h : a.length = sz) : chunk sz 0 (a ++ b) = a := by
  unfold chunk
  simp [← h]

/-- What a row holds, cell by cell. -/
theorem row_cells {w : World} {ok : Nat → Prop} {ts : Tys} {xs : List ts.den} {b p : Nat} (h : ∀ (j : Nat) (x : ts.den), xs[j]? = some x → ∃ cs, RSs w ok ts x cs ∧ At w b (p + j * ts.sz) cs) :
    ∀ n, n ≤ xs.length → ∃ news, news.length = n * ts.sz ∧ At w b p news ∧ (∀ (j : Nat) (x : ts.den), j < n → xs[j]? = some x → RSs w ok ts x (chunk ts.sz j news)) ∧ ∀ u ∈ news, u.oneCell' = true
  | 0, _ => ⟨[], by simp, fun i u hu => by simp at hu, fun j x hj => by omega, by simp⟩
  | n + 1, hn => by
    obtain ⟨news, h1, h2, h3, h4⟩ := row_cells h n (by omega)
    obtain ⟨cs, h5, h6⟩ := h n xs[n] (List.getElem?_eq_getElem (by omega))
    have hl := RSs_len ts _ cs h5
    refine ⟨news ++ cs, by rw [List.length_append, h1, hl, Nat.add_mul]; omega, At_app h2 (by rw [h1]; exact h6), fun j x hj hx => ?_, fun u hu => ?_⟩
    · by_cases hjn : j < n
      · rw [chunk_left (by rw [h1]; exact Nat.mul_le_mul_right _ hjn)]
        exact h3 j x hjn hx
      · have : j = n := by omega
        subst this
        rw [List.getElem?_eq_getElem (by omega)] at hx
        simp only [Option.some.injEq] at hx
        have := chunk_right (sz := ts.sz) (j := 0) (b := cs) h1
        rw [Nat.add_zero] at this
        rw [this, ← hx]
        have h7 := chunk_all (b := []) hl
        rw [List.append_nil] at h7
        rw [h7]
        exact h5
    · rcases List.mem_append.1 hu with hu | hu
      · exact h4 u hu
      · exact RSs_one ts _ cs h5 u hu

/-- A slice type's elements, their zero, their bytes. -/
@[reducible] def zv : Ty → Value
  | .i k => .int k 0
  | .b => .bool false
  | .s => .string ByteArray.empty
  | .l _ => .slice none 0 0
  | .v => .slice none 0 0
@[reducible] def zvs : Tys → List Value
  | .nil => []
  | .cons t ts => zv t :: zvs ts
structure MI (P : Program) (t e : TypeId) (ts : Tys) (by_ : Nat) : Prop where
  u : P.underlying t = some (.slice e)
  i : (P.info? e).map (fun i => (i.zero.map (·.cells.toList), i.size, i.bytes)) = some (some (zvs ts), ts.sz, by_)
theorem MI.info {P : Program} {t e : TypeId} {ts : Tys} {by_ : Nat} (h : MI P t e ts by_) : ∃ i z, P.info? e = some i ∧ i.zero = some z ∧ z.cells.toList = zvs ts ∧ i.size = ts.sz ∧ i.bytes = by_ := by
  obtain ⟨i, hi, hz⟩ := Option.map_eq_some_iff.1 h.i
  simp only [Prod.mk.injEq] at hz
  obtain ⟨h1, h2, h3⟩ := hz
  obtain ⟨z, hz, h4⟩ := Option.map_eq_some_iff.1 h1
  exact ⟨i, z, hi, hz, h4, h2, h3⟩
theorem RS_zero {w : World} {ok : Nat → Prop} : ∀ (t : Ty), RS w ok t t.z (zv t)
  | .i k => ⟨rfl, by cases k <;> rfl⟩
  | .b => rfl
  | .s => ⟨rfl, by simp⟩
  | .l ts => by simp only [RS]; exact ⟨none, 0, rfl, Nat.le_refl _, by omega, fun h => absurd rfl h⟩
  | .v => ⟨rfl, rfl⟩
theorem RSs_zero {w : World} {ok : Nat → Prop} : ∀ (ts : Tys), RSs w ok ts ts.z (zvs ts)
  | .nil => rfl
  | .cons t ts => ⟨_, _, rfl, RS_zero t, RSs_zero ts⟩
theorem zvs_len : ∀ (ts : Tys), (zvs ts).length = ts.sz
  | .nil => rfl
  | .cons t ts => by simp [zvs, Tys.sz, zvs_len ts]

section
variable {P : Program} {X : Cx} {Q : Exit → Act → World → Prop} {tm : Tm} {ob : List Ob} {a : Act} {w w' : World} {G G' : Gh}

theorem madeCells_get {z : Array Value} {n i : Nat} (h : i < n) (hz : 0 < z.size) : (madeCells z n).toList[i]? = z[i % z.size]? := by
  have hm : i % z.size < z.size := Nat.mod_lt _ hz
  rw [Array.getElem?_toList]
  simp only [madeCells, Array.getElem?_map]
  rw [Array.getElem?_eq_getElem (by simpa using h)]
  simp [hm]
theorem madeCells_chunk {z : Array Value} {n sz j : Nat} (hz : z.size = sz) (h0 : 0 < sz) (hj : j < n) : chunk sz j (madeCells z (n * sz)).toList = z.toList := by
  have hb : (j + 1) * sz ≤ n * sz := Nat.mul_le_mul_right _ hj
  rw [Nat.add_mul, Nat.one_mul] at hb
  apply List.ext_getElem?
  intro i
  by_cases hi : i < sz
  · rw [chunk_get hi, madeCells_get (by omega) (by omega), hz, Array.getElem?_toList]
    congr 1
    rw [Nat.add_comm, Nat.add_mul_mod_self_right, Nat.mod_eq_of_lt hi]
  · rw [List.getElem?_eq_none (by unfold chunk; rw [List.length_take]; omega), List.getElem?_eq_none (by simp; omega)]

/-- An array of the call's own, all new. -/
theorem new_arr (hG : GOK X ob G w) (hs0 : X.w0.heap.size ≤ w.heap.size) {inner : List Value} {ts : Tys} {e : TypeId} {n c : Nat} {cur : Array Value} {xs : List ts.den} (hn : xs.length = n) (hi : inner.length = n * ts.sz) (hnc : n ≤ c) (hc : c ≤ maxLen)
    (hcs : cur.size = c * ts.sz) (ht : cur.toList.take (n * ts.sz) = inner) (hx : ∀ (j : Nat) (x : ts.den), xs[j]? = some x → RSs w (okG X.Z G) ts x (chunk ts.sz j inner)) :
    ∃ G', St X (ob ++ [.arr false e ts xs]) G G' [] w (w.alloc (.cells cur e)) ∧ VR (w.alloc (.cells cur e)) (okG X.Z G') G' (.own ob.length) (.slice (some ⟨w.heap.size, 0, none⟩) n c) := by
  have hnew : (w.alloc (.cells cur e)).heap[w.heap.size]? = some (.cells cur e (0, 0)) := by
    show (w.heap.push _)[w.heap.size]? = _
    simp
  obtain ⟨g1, g2, g3⟩ := gok_new (w' := w.alloc (.cells cur e)) hG hs0 (g := (.slice (some ⟨w.heap.size, 0, none⟩) n c, [w.heap.size])) (o := .arr false e ts xs) (Kp.alloc [] w _) (by simp) (by simp) (by
    simp only [OR]
    refine ⟨inner, ⟨by rw [hn]; exact hi, .inr ⟨_, c, cur, by rw [hn], Nat.zero_le _, hnew, by omega, hc, hcs, by rw [hn]; exact ht⟩⟩, fun j x hj => ?_, rfl⟩
    refine RSs_mono (by simp) (fun b hb hlt => ⟨⟨fun h => ?_, hb.2⟩, (Kp.alloc [] w _).block b hlt (by simp)⟩) ts x _ (hx j x hj)
    obtain ⟨i, g, hi, hb'⟩ := fps_get h
    rcases Nat.lt_or_ge i G.length with h' | h'
    · rw [List.getElem?_append_left h'] at hi
      exact hb.1 (fps_mem hi hb')
    · rw [List.getElem?_append_right h'] at hi
      have : g = (.slice (some ⟨w.heap.size, 0, none⟩) n c, [w.heap.size]) := by
        have := List.mem_of_getElem? hi
        simpa using this
      subst this
      simp at hb'
      omega)
  refine ⟨_, st_new (Kp.alloc [] w _) g1 (by simp), ?_⟩
  simp only [VR]
  exact ⟨(.slice (some ⟨w.heap.size, 0, none⟩) n c, [w.heap.size]), by rw [← hG.len, List.getElem?_append_right (Nat.le_refl _)]; simp, rfl⟩

variable {ops : Array Oper} {rest : List Oper} {d : Nat} {ty : TypeId} {pos : String} {after : Array Edge} {gd : Option (Nat × Bool)}
/-- make([]T, n) -/
theorem smk {t e : TypeId} {ts : Tys} {by_ : Nat} {x y : Operand} {k k' : IntKind} {n : Int} (hx : rd tm x = some (.c (.i k) n)) (hy : rd tm y = some (.c (.i k') n))
    (hM : MI P t e ts by_) (hsz : 0 < ts.sz) (h0 : 0 ≤ n) (h63 : n ≤ 9223372036854775807) (hb : (by_ : Int) * n ≤ 281474976710656) :
    Sto P X tm ob [] (ob ++ [.arr false e ts (List.replicate n.toNat ts.z)]) ⟨some d, .makeSlice t x y, ty, pos, after, gd⟩ (.own ob.length) := fun a w G hs0 hG hv => by
    obtain ⟨i, z, hi, hz, hzc, hsize, hby⟩ := hM.info
    have hzs : z.cells.size = ts.sz := by rw [← Array.length_toList, hzc, zvs_len]
    obtain ⟨m, rfl⟩ := Int.eq_ofNat_of_zero_le h0
    have hru := run_make (P := P) w t e i z hM.u hi hz k k' m m h0 (Int.le_refl _) (by rw [hby]; exact hb) h63
    obtain ⟨G', g1, g4⟩ := new_arr (e := e) (ts := ts) (n := m) (c := m) (cur := madeCells z.cells (m * ts.sz)) (inner := (madeCells z.cells (m * ts.sz)).toList) (xs := List.replicate m ts.z) hG hs0 (by simp) (by rw [Array.length_toList, size_madeCells]) (Nat.le_refl _) (by simp only [maxLen]; omega) (by rw [size_madeCells])
      (List.take_of_length_le (by rw [Array.length_toList, size_madeCells]; exact Nat.le_refl _)) (fun j x hj => by
        have hjm : j < m := by have := (List.getElem?_eq_some_iff.1 hj).1; simpa using this
        rw [List.getElem?_replicate, if_pos hjm] at hj
        simp only [Option.some.injEq] at hj
        rw [madeCells_chunk hzs hsz hjm, hzc, ← hj]
        exact RSs_zero ts)
    refine ⟨_, _, G', ?_, g1, g4⟩
    simp only [Int.toNat_natCast, hsize] at hru
    simp only [execOp, (vr_i (hv x _ hx)).1, (vr_i (hv y _ hy)).1, Sem.run_bind, hru, Result.andThen_ok, Sem.run_pure]
theorem omk {t e : TypeId} {ts : Tys} {by_ : Nat} {x y : Operand} {k k' : IntKind} {n : Int} (hw : Wn ops ⟨some d, .makeSlice t x y, ty, pos, after, gd⟩ tm) (hN : d < X.N) (hx : rd tm x = some (.c (.i k) n)) (hy : rd tm y = some (.c (.i k') n))
    (hM : MI P t e ts by_) (hsz : 0 < ts.sz) (h0 : 0 ≤ n) (h63 : n ≤ 9223372036854775807) (hb : (by_ : Int) * n ≤ 281474976710656)
    (hr : OV P X ops Q rest ((d, .own ob.length) :: tm) (ob ++ [.arr false e ts (List.replicate n.toNat ts.z)])) : OV P X ops Q (⟨some d, .makeSlice t x y, ty, pos, after, gd⟩ :: rest) tm ob :=
  osto hw hN rfl (smk hx hy hM hsz h0 h63 hb) hr

/-- What cells hold, one by one. -/
inductive Il : (ts : Tys) → ts.den → List AV → Prop
  | n : Il .nil () []
  | c {t : Ty} {ts : Tys} {x : t.den} {xs : ts.den} {bs : List AV} (r : Il ts xs bs) : Il (.cons t ts) (x, xs) (.c t x :: bs)
  | nl {ts' ts : Tys} {xs : ts.den} {bs : List AV} (r : Il ts xs bs) : Il (.cons (.l ts') ts) ([], xs) (.nl :: bs)
theorem il_ok {ok : Nat → Prop} {ts : Tys} {x : ts.den} {bs : List AV} (h : Il ts x bs) : ∀ {vs : List Value}, VRs w ok G bs vs → RSs w ok ts x vs := by
  induction h with
  | n => intro vs hv; simpa only [VRs, RSs] using hv
  | c r ih =>
    intro vs hv
    simp only [VRs, VR] at hv
    obtain ⟨v, vs', rfl, h1, h2⟩ := hv
    simp only [RSs]
    exact ⟨v, vs', rfl, h1, ih h2⟩
  | nl r ih =>
    intro vs hv
    simp only [VRs, VR] at hv
    obtain ⟨v, vs', rfl, h1, h2⟩ := hv
    subst h1
    simp only [RSs, RS]
    exact ⟨_, vs', rfl, ⟨none, 0, rfl, Nat.le_refl _, by omega, fun h => absurd rfl h⟩, ih h2⟩
/-- What a cell, a run of cells holds, as data. -/
inductive Is : (ts : Tys) → ts.den → AV → Prop
  | c {t : Ty} {x : t.den} : Is (.cons t .nil) (x, ()) (.c t x)
  | n {t : TypeId} {ts : Tys} : Is (.cons (.l ts) .nil) ([], ()) .nl
  | g {ts : Tys} {x : ts.den} {as : List AV} (h : as = avs ts.sz ts x) : Is ts x (.agg as)
  | i {ts : Tys} {x : ts.den} {as : List AV} (h : Il ts x as) : Is ts x (.agg as)
theorem avs_RSs {w : World} {ok : Nat → Prop} {G : Gh} : ∀ (ts : Tys) (x : ts.den) (vs : List Value), VRs w ok G (avs ts.sz ts x) vs → RSs w ok ts x vs
  | .nil, _, vs, h => by simpa only [avs, Tys.sz, VRs, RSs] using h
  | .cons t ts, (x, xs), vs, h => by
    simp only [avs, Tys.sz, VRs] at h
    obtain ⟨v, vs', rfl, h1, h2⟩ := h
    simp only [RSs]
    exact ⟨v, vs', rfl, h1, avs_RSs ts xs vs' h2⟩
theorem is_ok {ok : Nat → Prop} {ts : Tys} {x : ts.den} {av : AV} {v : Value} (h : Is ts x av) (hv : VR w ok G av v) : RSs w ok ts x v.cells.toList := by
  cases h with
  | c =>
    rename_i t x
    simp only [VR] at hv
    have h1 := RS_one t x v hv
    have : v.cells = #[v] := by cases v <;> first | rfl | cases h1
    rw [this]
    simp only [RSs]
    exact ⟨v, [], rfl, hv, rfl⟩
  | n =>
    simp only [VR] at hv
    subst hv
    simp only [RSs, RS, Value.cells]
    exact ⟨_, [], rfl, ⟨none, 0, rfl, Nat.le_refl _, by omega, fun h => absurd rfl h⟩, rfl⟩
  | g h =>
    subst h
    simp only [VR] at hv
    obtain ⟨vs, rfl, hv⟩ := hv
    exact avs_RSs ts x vs hv
  | i h =>
    simp only [VR] at hv
    obtain ⟨vs, rfl, hv⟩ := hv
    exact il_ok h hv

/-- []T{} -/
theorem sbs0 {t e : TypeId} {ts : Tys} {by_ : Nat} (hM : MI P t e ts by_) :
    Sto P X tm ob [] (ob ++ [.arr false e ts []]) ⟨some d, .buildSlice t 0 #[], ty, pos, after, gd⟩ (.own ob.length) := fun a w G hs0 hG hv => by
    obtain ⟨i, z, hi, hz, hzc, hsize, hby⟩ := hM.info
    obtain ⟨G', g1, g4⟩ := new_arr (e := e) (ts := ts) (n := 0) (c := 0) (cur := #[]) (inner := []) (xs := []) hG hs0 rfl (by simp) (Nat.le_refl _) (Nat.zero_le _) (by simp) (by simp) (fun j x hj => by simp at hj)
    refine ⟨_, _, G', ?_, g1, g4⟩
    simp [execOp, Instr.buildSlice, run_underlying hM.u, sizeOf, typeInfo, hi, Instr.fill, newRow, newObj, Sem.run]
    congr 2
    apply Array.ext <;> simp
theorem obs0 {t e : TypeId} {ts : Tys} {by_ : Nat} (hw : Wn ops ⟨some d, .buildSlice t 0 #[], ty, pos, after, gd⟩ tm) (hN : d < X.N) (hM : MI P t e ts by_)
    (hr : OV P X ops Q rest ((d, .own ob.length) :: tm) (ob ++ [.arr false e ts []])) : OV P X ops Q (⟨some d, .buildSlice t 0 #[], ty, pos, after, gd⟩ :: rest) tm ob :=
  osto hw hN rfl (sbs0 hM) hr
theorem fill_one {cells : Array Value} {v : Value} {size : Nat} (h1 : v.cells.size = size) (h2 : cells.size = size) : Instr.fill (fun i => some (i * size, size)) cells [(0, v)] = some v.cells := by
  simp only [Instr.fill, h1, Nat.zero_mul, Nat.zero_add]
  rw [if_neg (by simp; omega)]
  simp only [Instr.fill, Option.some.injEq]
  have key : ∀ (l : List Value) (k : Nat) (cs : Array Value), k + l.length ≤ cs.size → ((l.zipIdx k).foldl (fun cs p => cs.setIfInBounds p.2 p.1) cs).toList = cs.toList.take k ++ l ++ cs.toList.drop (k + l.length) := by
    intro l
    induction l with
    | nil => intro k cs h; simp
    | cons x l ih =>
      intro k cs h
      simp only [List.zipIdx_cons, List.foldl_cons]
      rw [ih (k + 1) _ (by simp at h ⊢; omega)]
      simp only [List.length_cons] at h
      rw [Array.toList_setIfInBounds, List.take_set, List.drop_set]
      apply List.ext_getElem?
      intro j
      simp only [List.append_assoc, List.getElem?_append, List.length_take, List.length_set, Array.length_toList, List.getElem?_set, List.length_cons, List.getElem?_take, List.getElem?_drop, List.getElem?_cons]
      have e1 : min (k + 1) cs.size = k + 1 := by omega
      have e2 : min k cs.size = k := by omega
      rw [e1, e2]
      by_cases hj1 : j < k
      · simp [hj1, show j < k + 1 by omega, show ¬ k = j by omega]
      · by_cases hj2 : j = k
        · subst hj2
          simp [show j < cs.size by omega]
        · rw [if_neg (show ¬ j < k + 1 by omega), if_neg hj1]
          have : ¬ j - k = 0 := by omega
          rw [show j - (k + 1) = j - k - 1 by omega]
          (repeat' split) <;> first | rfl | omega | (rw [List.getElem?_drop]; congr 1; omega)
  have := key v.cells.toList 0 cells (by simp; omega)
  apply Array.toList_inj.1
  have e0 : v.cells.zipIdx.toList = v.cells.toList.zipIdx 0 := by simp
  rw [← Array.foldl_toList, e0]
  refine Eq.trans ?_ (this.trans ?_)
  · rfl
  · simp; omega
/-- []T{x} -/
theorem sbs1 {t e : TypeId} {ts : Tys} {by_ : Nat} {x : Operand} {av : AV} {xd : ts.den} (hM : MI P t e ts by_) (h0 : 0 < ts.sz) (h24 : ts.sz ≤ 16777216) (hx : rd tm x = some av) (hI : Is ts xd av) :
    Sto P X tm ob [] (ob ++ [.arr false e ts [xd]]) ⟨some d, .buildSlice t 1 #[(0, x)], ty, pos, after, gd⟩ (.own ob.length) := fun a w G hs0 hG hv => by
    obtain ⟨i, z, hi, hz, hzc, hsize, hby⟩ := hM.info
    have hR := is_ok hI (hv x _ hx)
    have hl := RSs_len ts xd _ hR
    obtain ⟨G', g1, g4⟩ := new_arr (e := e) (ts := ts) (n := 1) (c := 1) (cur := (a.eval x).cells) (inner := (a.eval x).cells.toList) (xs := [xd]) hG hs0 rfl (by rw [hl]; simp) (Nat.le_refl _) (by decide) (by rw [← hl]; simp) (by rw [List.take_of_length_le]; rw [hl]; simp) (fun j y hj => by
      cases j with
      | zero =>
        simp only [List.getElem?_cons_zero, Option.some.injEq] at hj
        subst hj
        have h7 := chunk_all (b := []) hl
        rw [List.append_nil] at h7
        rw [h7]; exact hR
      | succ j => simp at hj)
    refine ⟨_, _, G', ?_, g1, g4⟩
    have hf := fill_one (cells := (Array.range (1 * i.size)).map (z.cells[· % z.cells.size]!)) (v := a.eval x) (size := i.size) (by rw [← Array.length_toList, hl, hsize]) (by simp)
    have h1 : ¬ 1 * i.size > 2 ^ 24 := by rw [hsize]; omega
    have h2 : ¬ 1 * i.size = 0 := by rw [hsize]; omega
    simp only [execOp, Instr.buildSlice, Sem.run_bind, run_underlying hM.u, Result.andThen_ok, sizeOf, typeInfo, run_program, hi, Sem.run_pure, if_neg h1, if_neg h2, zeroValue, hz, List.map_toArray, List.map_cons, List.map_nil, hf]
    rfl
theorem obs1 {t e : TypeId} {ts : Tys} {by_ : Nat} {x : Operand} {av : AV} {xd : ts.den} (hw : Wn ops ⟨some d, .buildSlice t 1 #[(0, x)], ty, pos, after, gd⟩ tm) (hN : d < X.N) (hM : MI P t e ts by_) (h0 : 0 < ts.sz) (h24 : ts.sz ≤ 16777216) (hx : rd tm x = some av) (hI : Is ts xd av)
    (hr : OV P X ops Q rest ((d, .own ob.length) :: tm) (ob ++ [.arr false e ts [xd]])) : OV P X ops Q (⟨some d, .buildSlice t 1 #[(0, x)], ty, pos, after, gd⟩ :: rest) tm ob :=
  osto hw hN rfl (sbs1 hM h0 h24 hx hI) hr
end
end Go.Proofs.YtifpekpmnlcmoaaE
