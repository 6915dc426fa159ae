/- The engine, part 25: copy, clear, append onto a part. -/
import Derived.Test.YtifpekpmnlcmoaaE24
set_option linter.unusedVariables false
set_option linter.unusedSimpArgs false
namespace Go.Proofs.YtifpekpmnlcmoaaE
open Go Go.RowKit

section
variable {P : Program} {X : Cx} {Q : Exit → Act → World → Prop} {tm tm' : Tm} {ob ob' : List Ob} {a : Act} {w w' : World} {G G' : Gh} {M M' : List Nat}
variable {ops : Array Oper} {rest : List Oper} {dst : Option Nat} {d : Nat} {ty : TypeId} {pos : String} {after : Array Edge} {gd : Option (Nat × Bool)}

/-- What is copied, appended: a row or a part of one. -/
inductive Rx (ob : List Ob) (ts : Tys) : List ts.den → AV → Prop
  | w {k : Nat} {ys : List ts.den} {av : AV} (h : Rw ob k ts ys av) : Rx ob ts ys av
  | p {j lo m c : Nat} {e : TypeId} {xs : List (Option ts.den)} {ys : List ts.den} (ho : ob[j]? = some (.prt e ts xs c)) (hl : lo + m ≤ xs.length) (hd : (xs.drop lo).take m = ys.map some) : Rx ob ts ys (.sub j lo m ts.sz)
  | a {j lo m : Nat} {e : TypeId} {xs : List ts.den} (ho : ob[j]? = some (.arr false e ts xs)) (hl : lo + m ≤ xs.length) : Rx ob ts ((xs.drop lo).take m) (.sub j lo m ts.sz)
theorem part_cells {b lo m : Nat} {e : TypeId} {ts : Tys} {ys : List ts.den} {cur : Array Value} {ok : Nat → Prop} (hh : w.heap[b]? = some (.cells cur e (0, 0))) (hl : (lo + m) * ts.sz ≤ cur.size) (hy : ys.length = m)
    (hel : ∀ (j : Nat) (x : ts.den), ys[j]? = some x → RSs w ok ts x (chunk ts.sz (lo + j) cur.toList)) :
    ∃ news : List Value, news.length = ys.length * ts.sz ∧ (∀ j u, news[j]? = some u → w.cell? ((⟨b, lo * ts.sz, none⟩ : Addr).add j) = some u) ∧ (∀ (j : Nat) (x : ts.den), ys[j]? = some x → RSs w ok ts x (chunk ts.sz j news)) ∧ ∀ u ∈ news, u.oneCell' = true := by
  have hsz : ((cur.toList.drop (lo * ts.sz)).take (m * ts.sz)).length = m * ts.sz := by
    rw [List.length_take, List.length_drop, Array.length_toList]
    rw [Nat.add_mul] at hl; omega
  have hch : ∀ j, j < m → chunk ts.sz j ((cur.toList.drop (lo * ts.sz)).take (m * ts.sz)) = chunk ts.sz (lo + j) cur.toList := by
    intro j hj
    have h1 : (j + 1) * ts.sz ≤ m * ts.sz := Nat.mul_le_mul_right _ hj
    rw [chunk_take h1]
    unfold chunk
    rw [List.drop_drop, Nat.add_mul]
  refine ⟨(cur.toList.drop (lo * ts.sz)).take (m * ts.sz), by rw [hsz, hy], fun j u hu => ?_, fun j x hj => ?_, fun u hu => ?_⟩
  · have hj := (List.getElem?_eq_some_iff.1 hu).1
    rw [hsz] at hj
    rw [List.getElem?_take_of_lt hj, List.getElem?_drop] at hu
    rw [Addr.add_lit, cell_blk (vs := cur.toList) (by simpa using hh)]
    exact hu
  · have hj' := (List.getElem?_eq_some_iff.1 hj).1
    rw [hch j (by omega)]
    exact hel j x hj
  · obtain ⟨q, hq⟩ := List.getElem?_of_mem hu
    have hql := (List.getElem?_eq_some_iff.1 hq).1
    rw [hsz] at hql
    have hpos : 0 < ts.sz := by
      rcases Nat.eq_zero_or_pos ts.sz with h | h
      · rw [h, Nat.mul_zero] at hql; omega
      · exact h
    have hdiv : q / ts.sz < m := (Nat.div_lt_iff_lt_mul hpos).2 hql
    have hmod := Nat.mod_lt q hpos
    refine RSs_one ts _ _ (hel (q / ts.sz) ys[q / ts.sz] (List.getElem?_eq_getElem (by omega))) u (List.mem_of_getElem? (i := q % ts.sz) ?_)
    rw [← hch _ hdiv, chunk_get hmod, show q / ts.sz * ts.sz + q % ts.sz = q by rw [Nat.mul_comm]; exact Nat.div_add_mod _ _]
    exact hq
theorem rx_ok (hG : GOK X ob G w) {ts : Tys} {ys : List ts.den} {av : AV} {v : Value} (h : Rx ob ts ys av) (hv : VR w (okG X.Z G) G av v) : ∃ A c news, v = .slice A ys.length c ∧ news.length = ys.length * ts.sz ∧ (A = none → ys.length = 0) ∧
    (∀ ad, A = some ad → ∀ j u, news[j]? = some u → w.cell? (ad.add j) = some u) ∧ (∀ (j : Nat) (x : ts.den), ys[j]? = some x → RSs w (okG X.Z G) ts x (chunk ts.sz j news)) ∧ ∀ u ∈ news, u.oneCell' = true := by
  cases h with
  | w h => exact rw_ok hG h hv
  | @p j lo m c e xs ys ho hl hd =>
    have hyl : ys.length = m := by
      have := congrArg List.length hd
      simp at this; omega
    simp only [VR] at hv
    rcases hv with ⟨rfl, _, A, c', rfl⟩ | ⟨b, n, c', f, hg, rfl⟩
    · have : ys = [] := List.eq_nil_of_length_eq_zero hyl
      subst this
      exact ⟨A, c', [], rfl, by simp, fun _ => rfl, fun ad _ j u h => by simp at h, fun j x h => by simp at h, by simp⟩
    · obtain ⟨b2, inner, cur, hv2, hg2, hc, hm, hh, hcs, hil, htk, hel⟩ := prt_val (ok := fun _ => True) hG (x := .slice (some ⟨b, 0, none⟩) n c') (k := j) (by simp only [VR]; exact ⟨_, hg, rfl⟩) ho
      simp only [Value.slice.injEq, Option.some.injEq, Addr.mk.injEq, and_true] at hv2
      obtain ⟨rfl, rfl, rfl⟩ := hv2
      have hle : (lo + m) * ts.sz ≤ xs.length * ts.sz := Nat.mul_le_mul_right _ hl
      have hle2 : xs.length * ts.sz ≤ c' * ts.sz := Nat.mul_le_mul_right _ hc
      obtain ⟨news, h1, h2, h3, h4⟩ := part_cells (lo := lo) (m := m) (ys := ys) (ok := okG X.Z G) hh (by omega) hyl (fun q x hq => by
        have hqm := (List.getElem?_eq_some_iff.1 hq).1
        have : xs[lo + q]? = some (some x) := by
          have := congrArg (fun l => l[q]?) hd
          simp only [List.getElem?_take_of_lt (show q < m by omega), List.getElem?_drop, List.getElem?_map, hq, Option.map_some] at this
          exact this
        have := hel _ _ this
        rw [← htk, chunk_take (Nat.mul_le_mul_right _ (by omega))] at this
        exact this)
      exact ⟨_, c' - lo, news, by rw [hyl], h1, (fun h => by cases h), fun ad h => by cases h; exact h2, h3, h4⟩
  | @a j lo m e xs ho hl =>
    have hyl : ((xs.drop lo).take m).length = m := by simp; omega
    simp only [VR] at hv
    rcases hv with ⟨rfl, _, A, c', rfl⟩ | ⟨b, n, c', f, hg, rfl⟩
    · rw [List.take_zero]
      exact ⟨A, c', [], rfl, by simp, fun _ => rfl, fun ad _ j u h => by simp at h, fun j x h => by simp at h, by simp⟩
    · have hor := hG.ob j _ _ ho hg
      simp only [OR] at hor
      obtain ⟨inner, hown, hel, hf⟩ := hor
      rcases hown.2 with ⟨h1, _⟩ | ⟨b2, cap, cur, he, hb0, hh, hnc, hcm, hcs, htk⟩
      · cases h1
      · simp only [Value.slice.injEq, Option.some.injEq, Addr.mk.injEq, and_true] at he
        obtain ⟨rfl, rfl, rfl⟩ := he
        have hle : (lo + m) * ts.sz ≤ xs.length * ts.sz := Nat.mul_le_mul_right _ hl
        have hle2 : xs.length * ts.sz ≤ c' * ts.sz := Nat.mul_le_mul_right _ hnc
        obtain ⟨news, h1, h2, h3, h4⟩ := part_cells (lo := lo) (m := m) (ys := (xs.drop lo).take m) (ok := okG X.Z G) hh (by omega) hyl (fun q x hq => by
          have hqm := (List.getElem?_eq_some_iff.1 hq).1
          rw [List.getElem?_take_of_lt (by omega), List.getElem?_drop] at hq
          have := hel _ _ hq
          rw [← htk, chunk_take (Nat.mul_le_mul_right _ (by omega))] at this
          exact this)
        exact ⟨_, c' - lo, news, by rw [hyl], h1, (fun h => by cases h), fun ad h => by cases h; exact h2, h3, h4⟩

theorem chunk_putl {sz j p : Nat} {l vs : List Value} (hp : p + vs.length ≤ l.length) (h : (j + 1) * sz ≤ p ∨ p + vs.length ≤ j * sz) : chunk sz j (putl l p vs) = chunk sz j l := by
  apply List.ext_getElem?
  intro i
  by_cases hi : i < sz
  · rw [chunk_get hi, chunk_get hi, putl_get hp]
    rcases h with h | h
    · rw [if_pos (by rw [Nat.add_mul] at h; omega)]
    · rw [if_neg (by omega), if_neg (by omega)]
  · rw [List.getElem?_eq_none (by unfold chunk; rw [List.length_take]; omega), List.getElem?_eq_none (by unfold chunk; rw [List.length_take]; omega)]
theorem chunk_putl_in {sz j lo : Nat} {l vs : List Value} (hp : lo * sz + vs.length ≤ l.length) (h : (j + 1) * sz ≤ vs.length) : chunk sz (lo + j) (putl l (lo * sz) vs) = chunk sz j vs := by
  apply List.ext_getElem?
  intro i
  by_cases hi : i < sz
  · rw [chunk_get hi, chunk_get hi, putl_get hp]
    rw [Nat.add_mul] at h ⊢
    rw [if_neg (by omega), if_pos (by omega)]
    congr 1; omega
  · rw [List.getElem?_eq_none (by unfold chunk; rw [List.length_take]; omega), List.getElem?_eq_none (by unfold chunk; rw [List.length_take]; omega)]

/-- A row of which a part is written. -/
theorem put_st (hG : GOK X ob G w) (hs0 : X.w0.heap.size ≤ w.heap.size) {k b c lo : Nat} {e : TypeId} {ts : Tys} {xs : List (Option ts.den)} (ho : ob[k]? = some (.prt e ts xs c)) (hg : G[k]? = some (.slice (some ⟨b, 0, none⟩) xs.length c, [b]))
    {cur : Array Value} (hh : w.heap[b]? = some (.cells cur e (0, 0))) {inner : List Value} (hc : xs.length ≤ c) (hm : c ≤ 9223372036854775807) (hcs : cur.size = c * ts.sz) (hil : inner.length = xs.length * ts.sz) (htk : cur.toList.take (xs.length * ts.sz) = inner)
    (hel : ∀ (j : Nat) (x : ts.den), xs[j]? = some (some x) → RSs w (okG X.Z G) ts x (chunk ts.sz j inner)) (zs : List (Option ts.den)) (hzl : zs.length = xs.length) (news : List Value) (hfit : lo * ts.sz + news.length ≤ cur.size)
    (hz : ∀ (j : Nat) (x : ts.den), zs[j]? = some (some x) → (xs[j]? = some (some x) ∧ ((j + 1) * ts.sz ≤ lo * ts.sz ∨ lo * ts.sz + news.length ≤ j * ts.sz)) ∨ (∃ q, j = lo + q ∧ (q + 1) * ts.sz ≤ news.length ∧ RSs w (okG X.Z G) ts x (chunk ts.sz q news))) :
    ∃ G', St X (ob.set k (.prt e ts zs c)) G G' [k] w (w.setRow b (putl cur.toList (lo * ts.sz) news).toArray) := by
  have hbl : b < w.heap.size := (Array.getElem?_eq_some_iff.1 hh).1
  have hK : Kp (fps (pickG G [k])) w (w.setRow b (putl cur.toList (lo * ts.sz) news).toArray) := kp_setRow.mono (fun z hz _ => by simp only [List.mem_singleton] at hz; subst hz; exact (pick_one hg).2 (by simp))
  have hKG : Kp (fps G) w (w.setRow b (putl cur.toList (lo * ts.sz) news).toArray) := hK.mono (fun b hb _ => pick_sub b hb)
  have hkeep : ∀ (i : Nat) (gi : Value × List Nat), i ≠ k → G[i]? = some gi → ∀ x ∈ gi.2, (w.setRow b (putl cur.toList (lo * ts.sz) news).toArray).heap[x]? = w.heap[x]? := fun i gi hik hi x hx =>
    setRow_other w b x _ (fun e => nodup_apart hG.nodup i k gi _ hik hi hg x hx (by simp [e]))
  have hset : G.set k (.slice (some ⟨b, 0, none⟩) xs.length c, [b]) = G := by
    apply List.ext_getElem?
    intro i
    by_cases hik : i = k
    · subst hik; rw [List.getElem?_set_self (List.getElem?_eq_some_iff.1 hg).1, hg]
    · rw [List.getElem?_set_ne (Ne.symm hik)]
  have hpl : lo * ts.sz + news.length ≤ cur.toList.length := by rw [Array.length_toList]; exact hfit
  have m : Mv w (w.setRow b (putl cur.toList (lo * ts.sz) news).toArray) (okG X.Z G) (okG X.Z G) G G (fun k => k) :=
    ⟨hKG.size, fun z h1 h2 => ⟨h1, hKG.block z h2 h1.1⟩, fun k v g h => ⟨g, h⟩⟩
  obtain ⟨g1, g2, g3⟩ := gok_set hG hs0 hg (o := .prt e ts zs c) (f' := [b]) hKG hkeep (by simp) (fun x hx => ⟨by simp only [List.mem_singleton] at hx; subst hx; rw [setRow_size]; exact hbl, .inl hx⟩) (by
    rw [hset]
    simp only [OR, hzl]
    have hle2 : xs.length * ts.sz ≤ c * ts.sz := Nat.mul_le_mul_right _ hc
    have hpl2 : (putl cur.toList (lo * ts.sz) news).length = c * ts.sz := by rw [putl_len hpl, Array.length_toList, hcs]
    refine ⟨b, (putl cur.toList (lo * ts.sz) news).take (xs.length * ts.sz), rfl, ⟨by rw [List.length_take, hpl2]; omega, .inr ⟨b, c, _, rfl, Nat.zero_le _, setRow_heap w b _ _ _ _ hh, hc, by simpa only [maxLen] using hm, by rw [List.size_toArray, hpl2], rfl⟩⟩, fun j x hj => ?_⟩
    have hjl := (List.getElem?_eq_some_iff.1 hj).1
    rw [chunk_take (Nat.mul_le_mul_right _ (by omega))]
    rcases hz j x hj with ⟨h1, h2⟩ | ⟨q, rfl, h2, h3⟩
    · rw [chunk_putl hpl h2]
      have := hel j x h1
      rw [← htk, chunk_take (Nat.mul_le_mul_right _ (by omega))] at this
      exact RSs_mono m.size m.ok ts x _ this
    · rw [chunk_putl_in hpl h2]
      exact RSs_mono m.size m.ok ts x _ h3)
  rw [hset] at g1
  refine ⟨G, hK, g1, fun k v g h => ⟨g, h⟩, fun k g _ h => h, fun i g hi hm b' hb' => ?_⟩
  have hik : i = k := by
    rcases hm with h | h
    · simpa using h
    · have := (List.getElem?_eq_some_iff.1 hi).1; omega
  subst hik
  exact .inl ((pick_one hi).2 hb')

theorem news_take {ts : Tys} {ys : List ts.den} {news : List Value} {n : Nat} (h : news.length = ys.length * ts.sz) : (news.take (n * ts.sz)).length = (ys.take n).length * ts.sz := by
  rw [List.length_take, h, List.length_take]
  rcases Nat.le_total n ys.length with h1 | h1
  · rw [Nat.min_eq_left h1, Nat.min_eq_left (Nat.mul_le_mul_right _ h1)]
  · rw [Nat.min_eq_right h1, Nat.min_eq_right (Nat.mul_le_mul_right _ h1)]

/-- copy -/
theorem scopy {t e u : TypeId} {m k lo n c : Nat} {x y : Operand} {ts : Tys} {xs : List (Option ts.den)} {ys : List ts.den} {av : AV} (hx : rd tm x = some (.sub k lo n ts.sz)) (ho : ob[k]? = some (.prt e ts xs c)) (hy : rd tm y = some av) (hR : Rx ob ts ys av) (ht : linfo P t = some (e, m)) (hm : (m == ts.sz) = true) (hl : lo + n ≤ xs.length) (hn : n ≤ 9223372036854775807) :
    Sto P X tm ob [k] (ob.set k (.prt e ts (pblit xs lo (ys.take n)) c)) ⟨some d, .call { callee := .builtin .copy, args := #[x, y], argTypes := #[t, u] }, ty, pos, after, gd⟩ (.c (.i .i64) ((ys.take n).length : Int)) := fun a w G hs0 hG hv => by
  obtain rfl : m = ts.sz := by simpa using hm
  obtain ⟨hu, hsz⟩ := linfo_u ht
  obtain ⟨A, c2, news, hyv, h1, h2, h3, h4, h5⟩ := rx_ok hG hR (hv y _ hy)
  have hxv := hv x _ hx
  simp only [VR] at hxv
  have hnn : (ys.take n).length = Nat.min ys.length n := by simp [Nat.min_comm]
  have hfc : ∀ q, q ≤ ys.length → (Builtin.firstCells ts.sz q (.slice A ys.length c2)).run P w = .ok (news.take (q * ts.sz)).toArray w := by
    intro q hq
    cases A with
    | none =>
      have h0 := h2 rfl
      have : news = [] := List.eq_nil_of_length_eq_zero (by rw [h1, h0]; simp)
      subst this
      simp [Builtin.firstCells]
    | some ad =>
      exact run_firstCells_some w ts.sz q ad _ _ (news.take (q * ts.sz)) (by rw [List.length_take, h1]; exact Nat.min_eq_left (Nat.mul_le_mul_right _ hq)) (fun j v hj => by
        rw [List.getElem?_take] at hj
        split at hj
        · exact h3 ad rfl j v hj
        · cases hj)
  rcases hxv with ⟨rfl, _, A', c', hxv⟩ | ⟨b, n0, c', f, hg, hxv⟩
  · have hkl : k < G.length := by rw [hG.len]; exact (List.getElem?_eq_some_iff.1 ho).1
    have hsame : ob.set k (.prt e ts (pblit xs lo (ys.take 0)) c) = ob := by
      have : pblit xs lo (ys.take 0) = xs := by simp [pblit]
      rw [this]
      apply List.ext_getElem?
      intro i
      by_cases hik : i = k
      · subst hik; rw [List.getElem?_set_self (by rw [← hG.len]; exact hkl), ho]
      · rw [List.getElem?_set_ne (Ne.symm hik)]
    rw [hsame]
    refine ⟨.int .i64 0, w, G, ?_, ⟨Kp.refl _ _, hG, fun k v g h => ⟨g, h⟩, fun k g _ h => h, fun i g hi hm b' hb' => ?_⟩, by rw [List.take_zero]; exact vri rfl⟩
    · have := hfc 0 (Nat.zero_le _)
      simp only [Nat.zero_mul, List.take_zero] at this
      have hmin : ys.length.min 0 = 0 := Nat.min_zero _
      cases A' with
      | none => simp [execOp, resolve, invoke, builtin, Builtin.copy_, hxv, hyv, run_underlying hu, hsz, Builtin.lenOf, this, goInt, hmin]
      | some ad => simp [execOp, resolve, invoke, builtin, Builtin.copy_, hxv, hyv, run_underlying hu, hsz, Builtin.lenOf, this, goInt, hmin, storeCells]
    · have hik : i = k := by
        rcases hm with h | h
        · simpa using h
        · have := (List.getElem?_eq_some_iff.1 hi).1; omega
      subst hik
      exact .inl ((pick_one hi).2 hb')
  · obtain ⟨b2, inner, cur, hv2, hg2, hc, hcm, hh, hcs, hil, htk, hel⟩ := prt_val (ok := fun _ => True) hG (x := .slice (some ⟨b, 0, none⟩) n0 c') (k := k) (by simp only [VR]; exact ⟨_, hg, rfl⟩) ho
    simp only [Value.slice.injEq, Option.some.injEq, Addr.mk.injEq, and_true] at hv2
    obtain ⟨rfl, rfl, rfl⟩ := hv2
    have hq : Nat.min ys.length n ≤ ys.length := Nat.min_le_left _ _
    have hnl := news_take (n := n) h1
    have hle : (lo + n) * ts.sz ≤ xs.length * ts.sz := Nat.mul_le_mul_right _ hl
    have hle2 : xs.length * ts.sz ≤ c' * ts.sz := Nat.mul_le_mul_right _ hc
    have hle3 : (ys.take n).length * ts.sz ≤ n * ts.sz := Nat.mul_le_mul_right _ (by simp; omega)
    rw [Nat.add_mul] at hle
    have hnews : news.take (Nat.min ys.length n * ts.sz) = news.take (n * ts.sz) := by
      rcases Nat.le_total n ys.length with h6 | h6
      · rw [show Nat.min ys.length n = n from Nat.min_eq_right h6]
      · rw [show Nat.min ys.length n = ys.length from Nat.min_eq_left h6, ← h1, List.take_length, List.take_of_length_le]
        rw [h1]; exact Nat.mul_le_mul_right _ h6
    obtain ⟨G2, hst⟩ := put_st (lo := lo) hG hs0 ho hg2 hh hc hcm hcs hil htk hel (pblit xs lo (ys.take n)) (pblit_len (by simp; omega)) (news.take (n * ts.sz)) (by omega) (fun j z hj => by
      rw [pblit_get (by simp; omega)] at hj
      split at hj
      · rename_i hjl
        exact .inl ⟨hj, .inl (Nat.mul_le_mul_right _ hjl)⟩
      · rename_i hjl
        split at hj
        · rename_i hjh
          right
          rw [Option.map_eq_some_iff] at hj
          obtain ⟨z', hz1, hz2⟩ := hj
          cases hz2
          have hq2 := (List.getElem?_eq_some_iff.1 hz1).1
          refine ⟨j - lo, by omega, by rw [hnl]; exact Nat.mul_le_mul_right _ (by omega), ?_⟩
          have hjn : j - lo < n := by simp at hq2; omega
          rw [List.getElem?_take_of_lt hjn] at hz1
          have := h4 _ _ hz1
          rw [chunk_take (Nat.mul_le_mul_right _ (by omega))]
          exact this
        · rename_i hjh
          left
          refine ⟨hj, .inr ?_⟩
          rw [hnl, ← Nat.add_mul]
          exact Nat.mul_le_mul_right _ (by omega))
    refine ⟨_, _, G2, ?_, hst, vri (wrap_len (by simp; omega))⟩
    have hst2 := run_storeCells_at P b (lo * ts.sz) e (news.take (n * ts.sz)) 0 cur w hh (by omega) (fun u hu => h5 u (List.mem_of_mem_take hu))
    simp only [Nat.add_zero] at hst2
    have hfc2 := hfc _ hq
    rw [hnews] at hfc2
    simp only [execOp, resolve, invoke, builtin, Builtin.copy_, Sem.run_bind, Sem.run_pure, Result.andThen_ok, List.map_toArray, List.map_cons, List.map_nil, hxv, hyv, List.getElem?_toArray, List.getElem?_cons_zero, List.getElem?_cons_succ, run_underlying hu, hsz, Builtin.lenOf, hfc2, hst2, goInt, hnn]
    rfl

theorem pclr_len {α : Type} {xs : List (Option α)} {lo n : Nat} {z : α} : (xs.take lo ++ List.replicate (min n (xs.length - lo)) (some z) ++ xs.drop (lo + n)).length = xs.length := by simp; omega
theorem pclr_get {α : Type} {xs : List (Option α)} {lo n j : Nat} {z x : α} (h : (xs.take lo ++ List.replicate (min n (xs.length - lo)) (some z) ++ xs.drop (lo + n))[j]? = some (some x)) : (xs[j]? = some (some x) ∧ (j < lo ∨ lo + n ≤ j)) ∨ (lo ≤ j ∧ j < lo + n ∧ x = z) := by
  have hl := (List.getElem?_eq_some_iff.1 h).1
  rw [pclr_len] at hl
  by_cases hj : j < lo
  · rw [List.append_assoc, List.getElem?_append_left (by simp; omega), List.getElem?_take_of_lt hj] at h
    exact .inl ⟨h, .inl hj⟩
  · by_cases hj2 : j < lo + n
    · rw [List.getElem?_append_left (by simp; omega), List.getElem?_append_right (by simp; omega), List.getElem?_replicate] at h
      split at h
      · simp at h; exact .inr ⟨by omega, hj2, h.symm⟩
      · cases h
    · rw [List.getElem?_append_right (by simp; omega), List.getElem?_drop] at h
      refine .inl ⟨?_, .inr (by omega)⟩
      rw [← h]; congr 1; simp; omega
theorem zeroCells_chunk {z : Array Value} {n sz j : Nat} (hz : z.size = sz) (h0 : 0 < sz) (hj : j < n) : chunk sz j (Builtin.zeroCells z n).toList = z.toList := by
  have : Builtin.zeroCells z n = madeCells z (n * sz) := by simp [Builtin.zeroCells, madeCells, hz]
  rw [this]
  exact madeCells_chunk hz h0 hj
/-- An operation that yields what is not kept. -/
def Sto1 (P : Program) (X : Cx) (tm : Tm) (ob : List Ob) (M : List Nat) (ob' : List Ob) (o : Oper) : Prop :=
  ∀ (a : Act) (w : World) (G : Gh), X.w0.heap.size ≤ w.heap.size → GOK X ob G w → (∀ x av, rd tm x = some av → VR w (okG X.Z G) G av (a.eval x)) →
    ∃ v w' G', (execOp a.eval o).run P w = .ok (.value v) w' ∧ St X ob' G G' M w w'
theorem osto1 {o : Oper} (hw : Wn ops o tm) (hd : o.dst = none) (h : Sto1 P X tm ob M ob' o) (hr : OV P X ops Q rest tm ob') : OV P X ops Q (o :: rest) tm ob := fun a w hs => by
  refine wpList_step fun K hK => ?_
  rw [if_pos (wn_ok hw hs)]
  obtain ⟨G, hG, hv⟩ := hs.ex
  obtain ⟨v, w', G', h1, h2⟩ := h a w G hs.kp.size hG (fun x av hx => rd_ok hv hx)
  unfold Oper.wp
  rw [h1]
  refine hK _ _ (hr _ _ ?_)
  rw [hd]
  exact sg_sim (sg_st ⟨hs.n, hs.d, hs.kp, hG, hv⟩ h2)
theorem hsto1 {R : Act → World → Prop} {fuel : Nat} {listed : Array Bool} {j : Nat} {o : Oper} {M0 : List Nat} (M' : List Nat) (hj : ops[j]? = some o) (hw : Wn ops o tm) (hd : o.dst = none) (h : Sto1 P X tm ob M0 ob' o) (hM : effB M M0 M' ob.length = true)
    (hr : HV P X ops R M' fuel (listed.setIfInBounds j true) tm ob') : EV P X ops R M fuel listed tm ob j := fun a w G hs => by
  obtain ⟨v, w', G', h1, h2⟩ := h a w G hs.kp.size hs.gok (fun x av hx => rd_ok (X := X) hs.hv hx)
  refine wpOp_of hj (wn_ok hw (sg_sim hs)) ?_
  unfold Oper.wp
  rw [h1]
  simp only [Oper.upon]
  rw [hd]
  exact ev_core (o := o) (v := undef) hs h2 hM (sg_st hs h2) hr
/-- clear -/
theorem sclear {t e : TypeId} {by_ k lo n c : Nat} {x : Operand} {ts : Tys} {xs : List (Option ts.den)} (hx : rd tm x = some (.sub k lo n ts.sz)) (ho : ob[k]? = some (.prt e ts xs c)) (hM : MI P t e ts by_) (hsz : 0 < ts.sz) (hl : lo + n ≤ c) :
    Sto1 P X tm ob [k] (ob.set k (.prt e ts (xs.take lo ++ List.replicate (min n (xs.length - lo)) (some ts.z) ++ xs.drop (lo + n)) c)) ⟨none, .call { callee := .builtin .clear, args := #[x], argTypes := #[t] }, ty, pos, after, gd⟩ := fun a w G hs0 hG hv => by
  obtain ⟨i, z, hi, hz, hzc, hsize, hby⟩ := hM.info
  have hzs : z.cells.size = ts.sz := by rw [← Array.length_toList, hzc, zvs_len]
  have hzl : (Builtin.zeroCells z.cells n).toList.length = n * ts.sz := by rw [Array.length_toList, size_zeroCells, hzs]
  have hxv := hv x _ hx
  simp only [VR] at hxv
  rcases hxv with ⟨rfl, _, A', c', hxv⟩ | ⟨b, n0, c', f, hg, hxv⟩
  · have hkl : k < G.length := by rw [hG.len]; exact (List.getElem?_eq_some_iff.1 ho).1
    have hsame : ob.set k (.prt e ts (xs.take lo ++ List.replicate (min 0 (xs.length - lo)) (some ts.z) ++ xs.drop (lo + 0)) c) = ob := by
      have : xs.take lo ++ List.replicate (min 0 (xs.length - lo)) (some ts.z) ++ xs.drop (lo + 0) = xs := by simp
      rw [this]
      apply List.ext_getElem?
      intro i
      by_cases hik : i = k
      · subst hik; rw [List.getElem?_set_self (by rw [← hG.len]; exact hkl), ho]
      · rw [List.getElem?_set_ne (Ne.symm hik)]
    rw [hsame]
    refine ⟨.tuple #[], w, G, ?_, ⟨Kp.refl _ _, hG, fun k v g h => ⟨g, h⟩, fun k g _ h => h, fun i g hi hm b' hb' => ?_⟩⟩
    · cases A' <;> simp [execOp, resolve, invoke, builtin, Builtin.clear_, hxv, run_underlying hM.u]
    · have hik : i = k := by
        rcases hm with h | h
        · simpa using h
        · have := (List.getElem?_eq_some_iff.1 hi).1; omega
      subst hik
      exact .inl ((pick_one hi).2 hb')
  · obtain ⟨b2, inner, cur, hv2, hg2, hc, hcm, hh, hcs, hil, htk, hel⟩ := prt_val (ok := fun _ => True) hG (x := .slice (some ⟨b, 0, none⟩) n0 c') (k := k) (by simp only [VR]; exact ⟨_, hg, rfl⟩) ho
    simp only [Value.slice.injEq, Option.some.injEq, Addr.mk.injEq, and_true] at hv2
    obtain ⟨rfl, rfl, rfl⟩ := hv2
    have hle : (lo + n) * ts.sz ≤ c' * ts.sz := Nat.mul_le_mul_right _ hl
    rw [Nat.add_mul] at hle
    have hzone : ∀ u ∈ (Builtin.zeroCells z.cells n).toList, u.oneCell' = true := fun u hu => by
      obtain ⟨q, hq⟩ := List.getElem?_of_mem hu
      have hql := (List.getElem?_eq_some_iff.1 hq).1
      rw [hzl] at hql
      have hdiv : q / ts.sz < n := (Nat.div_lt_iff_lt_mul hsz).2 hql
      have hmod := Nat.mod_lt q hsz
      refine RSs_one ts ts.z (zvs ts) (RSs_zero (w := w) (ok := fun _ => True) ts) u (List.mem_of_getElem? (i := q % ts.sz) ?_)
      rw [← hzc, ← zeroCells_chunk hzs hsz hdiv, chunk_get hmod, Nat.mul_comm, Nat.div_add_mod]
      exact hq
    obtain ⟨G2, hst⟩ := put_st (lo := lo) hG hs0 ho hg2 hh hc hcm hcs hil htk hel (xs.take lo ++ List.replicate (min n (xs.length - lo)) (some ts.z) ++ xs.drop (lo + n)) pclr_len (Builtin.zeroCells z.cells n).toList (by rw [hzl]; omega) (fun j y hj => by
      rcases pclr_get hj with ⟨h1, h2 | h2⟩ | ⟨h1, h2, rfl⟩
      · exact .inl ⟨h1, .inl (Nat.mul_le_mul_right _ h2)⟩
      · exact .inl ⟨h1, .inr (by rw [hzl, ← Nat.add_mul]; exact Nat.mul_le_mul_right _ h2)⟩
      · refine .inr ⟨j - lo, by omega, by rw [hzl]; exact Nat.mul_le_mul_right _ (by omega), ?_⟩
        rw [zeroCells_chunk hzs hsz (by omega), hzc]
        exact RSs_zero ts)
    refine ⟨.tuple #[], _, G2, ?_, hst⟩
    have hst2 := run_storeCells_at P b (lo * ts.sz) e (Builtin.zeroCells z.cells n).toList 0 cur w hh (by rw [hzl]; omega) hzone
    simp only [Nat.add_zero] at hst2
    have hzv : (zeroValue e).run P w = .ok z w := by simp [zeroValue, typeInfo, hi, hz]
    by_cases hn0 : n = 0
    · subst hn0
      have : (Builtin.zeroCells z.cells 0).toList = [] := List.eq_nil_of_length_eq_zero (by rw [hzl]; simp)
      rw [this]
      have hsr : w.setRow b (putl cur.toList (lo * ts.sz) []).toArray = w := by
        have : putl cur.toList (lo * ts.sz) [] = cur.toList := by simp [putl]
        rw [this, Array.toArray_toList]
        exact setRow_self w b cur e (0, 0) hh
      rw [hsr]
      simp [execOp, resolve, invoke, builtin, Builtin.clear_, hxv, run_underlying hM.u]
    · obtain ⟨n', rfl⟩ : ∃ n', n = n' + 1 := ⟨n - 1, by omega⟩
      simp [execOp, resolve, invoke, builtin, Builtin.clear_, hxv, run_underlying hM.u, hzv, hst2, putl]
end
end Go.Proofs.YtifpekpmnlcmoaaE
