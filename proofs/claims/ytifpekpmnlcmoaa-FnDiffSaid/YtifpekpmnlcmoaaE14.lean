/- The engine, part 14: append; rows shared; results. -/
import Derived.Test.YtifpekpmnlcmoaaE13
set_option linter.unusedVariables false
set_option linter.unusedSimpArgs false
namespace Go.Proofs.YtifpekpmnlcmoaaE
open Go Go.RowKit

section
variable {P : Program} {X : Cx} {Q : Exit → Act → World → Prop} {tm : Tm} {ob : List Ob} {a : Act} {w w' : World} {G G' : Gh}
variable {ops : Array Oper} {rest : List Oper} {dst : Option Nat} {d : Nat} {ty : TypeId} {pos : String} {after : Array Edge} {gd : Option (Nat × Bool)}

theorem arr_RS {ok ok' : Nat → Prop} {dp : Bool} {e : TypeId} {ts : Tys} {xs : List ts.den} {g : Value × List Nat} (h : OR w ok G (.arr dp e ts xs) g) (hg : ∀ b ∈ g.2, ok' b) (hok : ∀ b, ok b → b < w.heap.size → ok' b) : RS w ok' (.l ts) xs g.1 := by
  cases dp with
  | true =>
    simp only [OR] at h
    obtain ⟨inner, fs, ho, hl, hx, he⟩ := h
    refine RS_of_RD (.l ts) xs g.1 g.2 hg ?_
    simp only [RD]
    exact ⟨e, inner, fs, ho, hl, hx, he⟩
  | false =>
    simp only [OR] at h
    obtain ⟨inner, ho, hx, he⟩ := h
    obtain ⟨u, fp⟩ := g
    simp only at ho he
    subst he
    simp only [RS]
    have ho' := ho
    rcases ho.2 with ⟨rfl, h0⟩ | ⟨g, cap, cur, rfl, hb, hgg, hn, hm, hs, ht⟩
    · have hxs : xs = [] := List.eq_nil_of_length_eq_zero h0
      subst hxs
      exact ⟨none, 0, rfl, Nat.le_refl _, by omega, fun h => absurd rfl h⟩
    · refine ⟨_, cap, rfl, hn, by simpa only [maxLen] using hm, fun hne => ⟨g, 0, rfl, hg g (by simp [Value.ownBlock]), (Array.getElem?_eq_some_iff.1 hgg).1, fun j x hj => ?_⟩⟩
      exact ⟨chunk ts.sz j inner, RSs_mono (Nat.le_refl _) (fun b h1 h2 => ⟨hok b h1 h2, rfl⟩) ts x _ (hx j x hj), at_of_owns ho' j⟩

theorem share_sim (hG : GOK X ob G w) (hs0 : X.w0.heap.size ≤ w.heap.size) {k : Nat} {dp : Bool} {e : TypeId} {ts : Tys} {xs : List ts.den} (ho : ob[k]? = some (.arr dp e ts xs)) {v : Value} {f : List Nat} (hg : G[k]? = some (v, f)) :
    GOK X (ob.set k .dead) (G.set k (v, [])) w ∧ RS w (okG X.Z (G.set k (v, []))) (.l ts) xs v ∧ Mv w w (okG X.Z G) (okG X.Z (G.set k (v, []))) G (G.set k (v, [])) (fun k => k) ∧
      (∀ (i : Nat) (v' : Value) (g : List Nat), G[i]? = some (v', g) → ∃ g', (G.set k (v, []))[i]? = some (v', g')) ∧ (∀ b ∈ fps (G.set k (v, [])), b ∈ fps G ∨ w.heap.size ≤ b) := by
  obtain ⟨g1, g2, g3⟩ := gok_set hG hs0 hg (o := .dead) (f' := []) (Kp.refl _ w) (fun _ _ _ _ _ _ => rfl) List.nodup_nil (by simp) rfl
  have m : Mv w w (okG X.Z G) (okG X.Z (G.set k (v, []))) G (G.set k (v, [])) (fun k => k) := mv_step (Kp.refl _ w) g2 g3
  refine ⟨g1, ?_, m, g2, g3⟩
  refine arr_RS (hG.ob k _ _ ho hg) (fun b hb => ⟨fun h => ?_, hG.z b (fps_mem hg hb)⟩) (fun b h1 h2 => (m.ok b h1 h2).1)
  obtain ⟨i, g, hi, hb'⟩ := fps_get h
  by_cases hik : i = k
  · subst hik
    rw [List.getElem?_set_self (List.getElem?_eq_some_iff.1 hg).1] at hi
    simp only [Option.some.injEq] at hi
    subst hi
    simp at hb'
  · rw [List.getElem?_set_ne (Ne.symm hik)] at hi
    exact nodup_apart hG.nodup i k g _ hik hi hg b hb' hb
/-- One's own row, from here on data. -/
theorem shr {t k : Nat} {dp : Bool} {e : TypeId} {ts : Tys} {xs : List ts.den} (ht : get tm t = some (.own k)) (ho : ob[k]? = some (.arr dp e ts xs)) : Wk X tm ob ((t, .c (.l ts) xs) :: tm) (ob.set k .dead) := fun a w hs => by
  obtain ⟨G, hG, hv⟩ := hs.ex
  obtain ⟨hn, hvr⟩ := hv t _ ht
  simp only [VR] at hvr
  obtain ⟨⟨v, f⟩, hg, hvr⟩ := hvr
  obtain ⟨g1, g2, m, g3, g4⟩ := share_sim hG hs.kp.size ho hg
  refine ⟨hs.n, hs.d, hs.kp, _, g1, fun t' av' h => ?_⟩
  simp only [get] at h
  split at h
  · rename_i he
    simp only [Option.some.injEq] at h
    subst h he
    refine ⟨hn, ?_⟩
    simp only [VR]
    rw [hvr]
    exact g2
  · exact ⟨(hv t' av' h).1, VR_mv' m (hv t' av' h).2⟩
/-- .. in a variable in memory. -/
theorem shrb {j k off : Nat} {bt : TypeId} {cells : List AV} {dp : Bool} {e : TypeId} {ts : Tys} {xs : List ts.den} (hj : ob[j]? = some (.box bt cells)) (hc : cells[off]? = some (.own k)) (ho : ob[k]? = some (.arr dp e ts xs)) (hjk : (j == k) = false) :
    Wk X tm ob tm ((ob.set k .dead).set j (.box bt (cells.set off (.c (.l ts) xs)))) := fun a w hs => by
  have hjk' : j ≠ k := by simpa using hjk
  obtain ⟨G, hG, hv⟩ := hs.ex
  have hkl : k < G.length := by rw [hG.len]; exact (List.getElem?_eq_some_iff.1 ho).1
  have hg : G[k]? = some (G[k].1, G[k].2) := List.getElem?_eq_getElem hkl
  obtain ⟨g1, g2, m, g3, g4⟩ := share_sim hG hs.kp.size ho hg
  have hjl : j < (G.set k (G[k].1, [])).length := by rw [List.length_set, hG.len]; exact (List.getElem?_eq_some_iff.1 hj).1
  have hgj : (G.set k (G[k].1, []))[j]? = some ((G.set k (G[k].1, []))[j].1, (G.set k (G[k].1, []))[j].2) := List.getElem?_eq_getElem hjl
  have hoj : (ob.set k .dead)[j]? = some (.box bt cells) := by rw [List.getElem?_set_ne (Ne.symm hjk')]; exact hj
  have hor := g1.ob j _ _ hoj hgj
  have hs2 : (G.set k (G[k].1, [])).set j ((G.set k (G[k].1, []))[j].1, (G.set k (G[k].1, []))[j].2) = G.set k (G[k].1, []) := by
    apply List.ext_getElem?
    intro i
    by_cases hij : i = j
    · subst hij; rw [List.getElem?_set_self hjl, hgj]
    · rw [List.getElem?_set_ne (Ne.symm hij)]
  obtain ⟨q1, q2, q3⟩ := gok_set (f' := (G.set k (G[k].1, []))[j].2) (o := .box bt (cells.set off (.c (.l ts) xs))) g1 hs.kp.size hgj (Kp.refl _ w) (fun _ _ _ _ _ _ => rfl) (nodup_each g1.nodup j _ hgj) (fun b hb => ⟨(g1.lt b (fps_mem hgj hb)).1, .inl hb⟩) (by
    rw [hs2]
    simp only [OR] at hor ⊢
    obtain ⟨b, vs, h1, h2, h3, h4⟩ := hor
    refine ⟨b, vs, h1, h2, ?_, h4⟩
    obtain ⟨u, hu1, hu2⟩ := VRs_get h3 hc
    simp only [VR] at hu2
    obtain ⟨gg, hgg, rfl⟩ := hu2
    rw [List.getElem?_set_self hkl] at hgg
    simp only [Option.some.injEq] at hgg
    subst hgg
    have key : ∀ (as : List AV) (us : List Value) (i : Nat) (v : Value) (av : AV), VRs w (okG X.Z (G.set k (G[k].1, []))) (G.set k (G[k].1, [])) as us → us[i]? = some v → VR w (okG X.Z (G.set k (G[k].1, []))) (G.set k (G[k].1, [])) av v → VRs w (okG X.Z (G.set k (G[k].1, []))) (G.set k (G[k].1, [])) (as.set i av) us := by
      intro as
      induction as with
      | nil => intro us i v av h _ _; exact h
      | cons x as ih =>
        intro us i v av h h1 h2
        simp only [VRs] at h
        obtain ⟨u, us', rfl, h3, h4⟩ := h
        cases i with
        | zero =>
          simp only [List.getElem?_cons_zero, Option.some.injEq] at h1
          subst h1
          exact ⟨u, us', rfl, h2, h4⟩
        | succ i => exact ⟨u, us', rfl, h3, ih us' i v av h4 (by simpa using h1) h2⟩
    exact key cells vs off _ _ h3 hu1 (by simp only [VR]; exact g2))
  rw [hs2] at q1
  exact ⟨hs.n, hs.d, hs.kp, _, q1, fun t' av' h => ⟨(hv t' av' h).1, VR_mv' m (hv t' av' h).2⟩⟩

theorem run_app {t e : TypeId} {ts : Tys} {by_ : Nat} (hM : MI P t e ts by_) (hsz : 0 < ts.sz) {v : Value} {n : Nat} {xs : List Value} (hown : w.ownsRow 0 e ts.sz v n xs)
    {A : Option Addr} {m c : Nat} {news : List Value} (hl : news.length = m * ts.sz) (hA : A = none → m = 0) (hnews : ∀ ad, A = some ad → ∀ j u, news[j]? = some u → w.cell? (ad.add j) = some u) (h1 : ∀ u ∈ news, u.oneCell' = true)
    (h63 : n + m ≤ maxLen) (hbytes : (n + m) * by_ ≤ 140737488355328) :
    ∃ v' w', (Builtin.append_ #[t, t] ty #[v, .slice A m c]).run P w = .ok v' w' ∧ w'.ownsRow 0 e ts.sz v' (n + m) (xs ++ news) ∧ w.grownBy w' v.ownBlock ∧ (∀ b, v'.ownBlock = some b → v.ownBlock = some b ∨ w.heap.size ≤ b) := by
  obtain ⟨i, z, hi, hz, hzc, hsize, hby⟩ := hM.info
  have hzs : z.cells.size = ts.sz := by rw [← Array.length_toList, hzc, zvs_len]
  cases A with
  | none =>
    obtain rfl := hA rfl
    have hn : news = [] := List.eq_nil_of_length_eq_zero (by simpa using hl)
    subst hn
    obtain ⟨B, cap, rfl, hnc, _⟩ := own_form hown
    refine ⟨_, w, ?_, by simpa using hown, ⟨rfl, rfl, rfl, Nat.le_refl _, fun _ _ _ => rfl⟩, fun b hb => .inl hb⟩
    simp [Builtin.append_, run_underlying hM.u, sizeOf, typeInfo, hi, Builtin.lenOf, hnc, Builtin.firstCells]
    cases B <;> simp [storeCells]
  | some ad =>
    have hnews := hnews ad rfl
    rcases hown.2 with ⟨rfl, rfl⟩ | ⟨g, cap, cur, rfl, hbg, hg, hnc, hcm, hcs, htake⟩
    · have hx : xs = [] := List.eq_nil_of_length_eq_zero (by simpa using hown.1)
      subst hx
      obtain ⟨v', w', h2, h3, h4, _⟩ := run_append_own (P := P) w w.heap.size t ty e i z ts.sz by_ hM.u hi hz hsize hby hzs hsz (.slice none 0 0) 0 [] (World.ownsRow_nil _ _ _ _) ad m c news hl hnews h1 h63 hbytes (Nat.le_refl _)
      refine ⟨v', w', h2, ?_, h4, fun b hb => .inr (h3.lt b hb).1⟩
      obtain ⟨h5, h6⟩ := h3
      refine ⟨h5, h6.imp id (fun ⟨g, cap, cur, e1, _, r⟩ => ⟨g, cap, cur, e1, Nat.zero_le _, r⟩)⟩
    · by_cases hroom : n + m ≤ cap
      · have hfit : n * i.size + news.length ≤ cur.size := by rw [hl, hcs, hsize, ← Nat.add_mul]; exact Nat.mul_le_mul_right _ hroom
        have hr := run_append_room (P := P) w t ty e i hM.u hi g n cap cur hg ad m c news (by rw [hsize]; exact hl) hnews h1 hroom hfit
        obtain ⟨v', w', h2, h3, h4, _⟩ := run_append_own (P := P) w 0 t ty e i z ts.sz by_ hM.u hi hz hsize hby hzs hsz _ n xs hown ad m c news hl hnews h1 h63 hbytes (Nat.zero_le _)
        rw [h2] at hr
        simp only [Result.ok.injEq] at hr
        obtain ⟨e1, e2⟩ := hr
        exact ⟨v', w', h2, h3, h4, fun b hb => .inl (by rw [e1] at hb; simpa [Value.ownBlock] using hb)⟩
      · have holds : ∀ j u, xs[j]? = some u → w.cell? ((⟨g, 0, none⟩ : Addr).add j) = some u := hown.cells (g := g) rfl
        have hr := run_append_grow (P := P) w t ty e i z hM.u hi hz ⟨g, 0, none⟩ n cap xs (by rw [hsize]; exact hown.1) holds ad m c news (by rw [hsize]; exact hl) hnews (by omega) (by simp only [maxLen] at h63; omega) (by rw [hby]; exact growslice_fits (by omega) hbytes)
        obtain ⟨v', w', h2, h3, h4, _⟩ := run_append_own (P := P) w 0 t ty e i z ts.sz by_ hM.u hi hz hsize hby hzs hsz _ n xs hown ad m c news hl hnews h1 h63 hbytes (Nat.zero_le _)
        rw [h2] at hr
        simp only [Result.ok.injEq] at hr
        obtain ⟨e1, e2⟩ := hr
        refine ⟨v', w', h2, h3, h4, fun b hb => .inr ?_⟩
        rw [e1] at hb
        simp [Value.ownBlock] at hb
        omega

/-- What is appended. -/
inductive Rw (ob : List Ob) (k : Nat) (ts : Tys) : List ts.den → AV → Prop
  | c {ys : List ts.den} : Rw ob k ts ys (.c (.l ts) ys)
  | o {j : Nat} {e : TypeId} {ys : List ts.den} (ho : ob[j]? = some (.arr false e ts ys)) (hj : (j == k) = false) : Rw ob k ts ys (.own j)
  | n : Rw ob k ts [] .nl
theorem rw_ok (hG : GOK X ob G w) {k : Nat} {ts : Tys} {ys : List ts.den} {av : AV} {v : Value} (h : Rw ob k ts ys av) (hv : VR w (okG X.Z G) G av v) : ∃ A c news, v = .slice A ys.length c ∧ news.length = ys.length * ts.sz ∧ (A = none → ys.length = 0) ∧
    (∀ ad, A = some ad → ∀ j u, news[j]? = some u → w.cell? (ad.add j) = some u) ∧ (∀ (j : Nat) (x : ts.den), ys[j]? = some x → RSs w (okG X.Z G) ts x (chunk ts.sz j news)) ∧ ∀ u ∈ news, u.oneCell' = true := by
  cases h with
  | c =>
    simp only [VR, RS] at hv
    obtain ⟨A, c, rfl, hc, hm, hrow⟩ := hv
    by_cases hne : ys = []
    · subst hne
      exact ⟨A, c, [], rfl, by simp, fun _ => rfl, fun ad _ j u h => by simp at h, fun j x h => by simp at h, by simp⟩
    · obtain ⟨b, p, rfl, hok, hlt, hx⟩ := hrow hne
      obtain ⟨news, h1, h2, h3, h4⟩ := row_cells hx ys.length (Nat.le_refl _)
      exact ⟨_, c, news, rfl, h1, (fun h => by cases h), fun ad h j u hu => by cases h; rw [Addr.add_lit]; exact h2 j u hu, fun j x hj => h3 j x (List.getElem?_eq_some_iff.1 hj).1 hj, h4⟩
  | o ho hj =>
    rename_i j e
    simp only [VR] at hv
    obtain ⟨g, hg, rfl⟩ := hv
    have hor := hG.ob j _ g ho hg
    simp only [OR] at hor
    obtain ⟨inner, hown, hel, hf⟩ := hor
    have hone : ∀ u ∈ inner, u.oneCell' = true := fun u hu => by
      obtain ⟨q, hq⟩ := List.getElem?_of_mem hu
      have hql : q < inner.length := (List.getElem?_eq_some_iff.1 hq).1
      have hil := hown.1
      have hsz : 0 < ts.sz := by
        rcases Nat.eq_zero_or_pos ts.sz with h | h
        · rw [h, Nat.mul_zero] at hil; omega
        · exact h
      have hdiv : q / ts.sz < ys.length := (Nat.div_lt_iff_lt_mul hsz).2 (by omega)
      have hmod := Nat.mod_lt q hsz
      refine RSs_one ts _ _ (hel (q / ts.sz) ys[q / ts.sz] (List.getElem?_eq_getElem hdiv)) u (List.mem_of_getElem? (i := q % ts.sz) ?_)
      rw [chunk_get hmod, Nat.mul_comm, Nat.div_add_mod]
      exact hq
    rcases hown.2 with ⟨he, h0⟩ | ⟨b, cap, cur, he, hb0, hh, hnc, hcm, hcs, htk⟩
    · have hys : ys = [] := List.eq_nil_of_length_eq_zero h0
      subst hys
      exact ⟨none, 0, inner, he, hown.1, fun _ => rfl, (fun ad h => by cases h), hel, hone⟩
    · refine ⟨_, cap, inner, he, hown.1, (fun h => by cases h), fun ad h j u hu => ?_, hel, hone⟩
      cases h
      exact hown.cells (g := b) (by rw [he]; rfl) j u hu
  | n =>
    simp only [VR] at hv
    exact ⟨none, 0, [], hv, by simp, fun _ => rfl, (fun ad h => by cases h), fun j x h => by simp at h, by simp⟩
theorem app_core (hG : GOK X ob G w) (hs0 : X.w0.heap.size ≤ w.heap.size) (k : Nat) {e : TypeId} {ts : Tys} {v v' : Value} {xs ys : List ts.den} {inner news : List Value} (hown : w.ownsRow 0 e ts.sz v xs.length inner)
    (hel : ∀ (j : Nat) (x : ts.den), xs[j]? = some x → RSs w (okG X.Z G) ts x (chunk ts.sz j inner)) (hblk : ∀ b, v.ownBlock = some b → ∃ gk, G[k]? = some gk ∧ b ∈ gk.2)
    (h4 : ∀ (j : Nat) (x : ts.den), ys[j]? = some x → RSs w (okG X.Z G) ts x (chunk ts.sz j news)) (hrow : w'.ownsRow 0 e ts.sz v' (xs.length + ys.length) (inner ++ news)) (hgr : w.grownBy w' v.ownBlock) (hb : ∀ b, v'.ownBlock = some b → v.ownBlock = some b ∨ w.heap.size ≤ b) :
    ∃ G', St X (ob.set k .dead ++ [.arr false e ts (xs ++ ys)]) G G' [k] w w' ∧ VR w' (okG X.Z G') G' (.own ob.length) v' := by
  have hlt : ∀ b ∈ v'.ownBlock.toList, b < w'.heap.size := owns_lt hrow
  have hK : Kp (fps G) w w' := (Kp.of_grown hgr).mono (fun b hb' _ => by
    obtain ⟨gk, g1, g2⟩ := hblk b (by simpa using hb')
    exact fps_mem g1 g2)
  have hkeep : ∀ (i : Nat) (gi : Value × List Nat), i ≠ k → G[i]? = some gi → ∀ b ∈ gi.2, w'.heap[b]? = w.heap[b]? := fun i gi hik hi b hbi =>
    hgr.block b (hG.lt b (fps_mem hi hbi)).1 (fun e => by
      obtain ⟨gk, g1, g2⟩ := hblk b e.symm
      exact nodup_apart hG.nodup i k gi gk hik hi g1 b hbi g2)
  obtain ⟨g1, g2, g3⟩ := gok_app (g := (v', v'.ownBlock.toList)) (o := .arr false e ts (xs ++ ys)) hG hs0 k hK hkeep (by cases v'.ownBlock <;> simp) (fun b hb' => ⟨hlt b hb', by
      rcases hb b (by simpa using hb') with h | h
      · exact .inl (hblk b h)
      · exact .inr h⟩) (by
    simp only [OR]
    refine ⟨inner ++ news, by rw [List.length_append]; exact hrow, fun j x hj => ?_, trivial⟩
    have m : ∀ b, okG X.Z G b → b < w.heap.size → okG X.Z (kl G k ++ [(v', v'.ownBlock.toList)]) b ∧ w'.heap[b]? = w.heap[b]? := fun b h6 h7 => by
      refine ⟨⟨fun h => ?_, h6.2⟩, hK.block b h7 h6.1⟩
      obtain ⟨i, gi, hi, hb'⟩ := fps_get h
      rcases Nat.lt_or_ge i G.length with h' | h'
      · rw [List.getElem?_append_left (by rw [kl_len]; exact h')] at hi
        by_cases hik : i = k
        · rw [hik] at hi h'
          rw [kl_at (List.getElem?_eq_getElem h')] at hi
          simp only [Option.some.injEq] at hi
          rw [← hi] at hb'
          simp at hb'
        · rw [kl_ne hik] at hi
          exact h6.1 (fps_mem hi hb')
      · rw [List.getElem?_append_right (by rw [kl_len]; exact h')] at hi
        have : gi = (v', v'.ownBlock.toList) := by
          have := List.mem_of_getElem? hi
          simpa using this
        rw [this] at hb'
        rcases hb b (by simpa using hb') with h | h
        · obtain ⟨gk, q1, q2⟩ := hblk b h
          exact h6.1 (fps_mem q1 q2)
        · omega
    by_cases hjx : j < xs.length
    · rw [List.getElem?_append_left hjx] at hj
      rw [chunk_left (by rw [hown.1]; exact Nat.mul_le_mul_right _ hjx)]
      exact RSs_mono hK.size m ts x _ (hel j x hj)
    · rw [List.getElem?_append_right (by omega)] at hj
      have := chunk_right (sz := ts.sz) (j := j - xs.length) (b := news) hown.1
      rw [show xs.length + (j - xs.length) = j by omega] at this
      rw [this]
      exact RSs_mono hK.size m ts x _ (h4 _ x hj))
  refine ⟨_, st_app ((Kp.of_grown hgr).mono (fun b hb' _ => by
    obtain ⟨gk, q1, q2⟩ := hblk b (by simpa using hb')
    exact (pick_one q1).2 q2)) g1 (fun b hb' => by
      rcases hb b (by simpa using hb') with h | h
      · exact .inl (hblk b h)
      · exact .inr h), ?_⟩
  simp only [VR]
  exact ⟨(v', v'.ownBlock.toList), by rw [← hG.len, List.getElem?_append_right (by rw [kl_len]; exact Nat.le_refl _), kl_len]; simp, rfl⟩
theorem app_sim (hG : GOK X ob G w) (hs0 : X.w0.heap.size ≤ w.heap.size) (k : Nat) {t e : TypeId} {ts : Tys} {by_ : Nat} (hM : MI P t e ts by_) (hsz : 0 < ts.sz) {v y : Value} {xs ys : List ts.den} {inner : List Value} (hown : w.ownsRow 0 e ts.sz v xs.length inner)
    (hel : ∀ (j : Nat) (x : ts.den), xs[j]? = some x → RSs w (okG X.Z G) ts x (chunk ts.sz j inner)) (hblk : ∀ b, v.ownBlock = some b → ∃ gk, G[k]? = some gk ∧ b ∈ gk.2) {av : AV} (hy : Rw ob k ts ys av) (hyv : VR w (okG X.Z G) G av y)
    (h63 : xs.length + ys.length ≤ 9223372036854775807) (hbytes : (xs.length + ys.length) * by_ ≤ 140737488355328) :
    ∃ v' w' G', (Builtin.append_ #[t, t] ty #[v, y]).run P w = .ok v' w' ∧ St X (ob.set k .dead ++ [.arr false e ts (xs ++ ys)]) G G' [k] w w' ∧ VR w' (okG X.Z G') G' (.own ob.length) v' := by
  obtain ⟨A, c, news, rfl, h1, h2, h3, h4, h5⟩ := rw_ok hG hy hyv
  obtain ⟨v', w', hr, hrow, hgr, hb⟩ := run_app (P := P) (ty := ty) hM hsz hown h1 h2 h3 h5 (by simp only [maxLen]; exact h63) hbytes
  obtain ⟨G', g⟩ := app_core hG hs0 k hown hel hblk h4 hrow hgr hb
  exact ⟨v', w', G', hr, g⟩
/-- append onto a row of the call's own. -/
theorem sapp {t e : TypeId} {ts : Tys} {by_ : Nat} {x y : Operand} {k : Nat} {xs ys : List ts.den} {av : AV} 
    (hx : rd tm x = some (.own k)) (ho : ob[k]? = some (.arr false e ts xs)) (hy : rd tm y = some av) (hR : Rw ob k ts ys av) (hM : MI P t e ts by_) (hsz : 0 < ts.sz) (h63 : xs.length + ys.length ≤ 9223372036854775807) (hbytes : (xs.length + ys.length) * by_ ≤ 140737488355328) :
    Sto P X tm ob [k] (ob.set k .dead ++ [.arr false e ts (xs ++ ys)]) ⟨some d, .call { callee := .builtin .append, args := #[x, y], argTypes := #[t, t] }, ty, pos, after, gd⟩ (.own ob.length) := fun a w G hs0 hG hv => by
    have h1 := hv x _ hx
    simp only [VR] at h1
    obtain ⟨g, hg, h1⟩ := h1
    have hor := hG.ob k _ g ho hg
    simp only [OR] at hor
    obtain ⟨inner, hown, hel, hf⟩ := hor
    obtain ⟨v', w', G', h2, h3⟩ := app_sim (ty := ty) hG hs0 k hM hsz hown hel (fun b hb => ⟨g, hg, by rw [hf, hb]; simp⟩) hR (hv y _ hy) h63 hbytes
    refine ⟨v', w', G', ?_, h3⟩
    simp only [execOp, resolve, invoke, builtin, Sem.run_bind, Sem.run_pure, Result.andThen_ok, List.map_toArray, List.map_cons, List.map_nil, h1, h2]
theorem oapp {t e : TypeId} {ts : Tys} {by_ : Nat} {x y : Operand} {k : Nat} {xs ys : List ts.den} {av : AV} (hw : Wn ops ⟨some d, .call { callee := .builtin .append, args := #[x, y], argTypes := #[t, t] }, ty, pos, after, gd⟩ tm) (hN : d < X.N) 
    (hx : rd tm x = some (.own k)) (ho : ob[k]? = some (.arr false e ts xs)) (hy : rd tm y = some av) (hR : Rw ob k ts ys av) (hM : MI P t e ts by_) (hsz : 0 < ts.sz) (h63 : xs.length + ys.length ≤ 9223372036854775807) (hbytes : (xs.length + ys.length) * by_ ≤ 140737488355328)
    (hr : OV P X ops Q rest ((d, .own ob.length) :: tm) (ob.set k .dead ++ [.arr false e ts (xs ++ ys)])) : OV P X ops Q (⟨some d, .call { callee := .builtin .append, args := #[x, y], argTypes := #[t, t] }, ty, pos, after, gd⟩ :: rest) tm ob :=
  osto hw hN rfl (sapp hx ho hy hR hM hsz h63 hbytes) hr
/-- append onto nil. -/
theorem sappn {t e : TypeId} {ts : Tys} {by_ : Nat} {x y : Operand} {ys : List ts.den} {av : AV} 
    (hx : rd tm x = some .nl) (hy : rd tm y = some av) (hR : Rw ob ob.length ts ys av) (hM : MI P t e ts by_) (hsz : 0 < ts.sz) (h63 : ys.length ≤ 9223372036854775807) (hbytes : ys.length * by_ ≤ 140737488355328) :
    Sto P X tm ob [] (ob ++ [.arr false e ts ys]) ⟨some d, .call { callee := .builtin .append, args := #[x, y], argTypes := #[t, t] }, ty, pos, after, gd⟩ (.own ob.length) := fun a w G hs0 hG hv => by
    have h1 := hv x _ hx
    simp only [VR] at h1
    obtain ⟨v', w', G', h2, h3⟩ := app_sim (ty := ty) (xs := []) (inner := []) hG hs0 ob.length hM hsz (World.ownsRow_nil w 0 e ts.sz) (fun j x hj => by simp at hj) (fun b hb => by simp [Value.ownBlock] at hb) hR (hv y _ hy) (by simpa using h63) (by simpa using hbytes)
    rw [List.set_eq_of_length_le (Nat.le_refl _), List.nil_append] at h3
    refine ⟨v', w', G', ?_, h3.1.nil (by rw [hG.len]; exact Nat.le_refl _), h3.2⟩
    simp only [execOp, resolve, invoke, builtin, Sem.run_bind, Sem.run_pure, Result.andThen_ok, List.map_toArray, List.map_cons, List.map_nil, h1, h2]
theorem oappn {t e : TypeId} {ts : Tys} {by_ : Nat} {x y : Operand} {ys : List ts.den} {av : AV} (hw : Wn ops ⟨some d, .call { callee := .builtin .append, args := #[x, y], argTypes := #[t, t] }, ty, pos, after, gd⟩ tm) (hN : d < X.N) 
    (hx : rd tm x = some .nl) (hy : rd tm y = some av) (hR : Rw ob ob.length ts ys av) (hM : MI P t e ts by_) (hsz : 0 < ts.sz) (h63 : ys.length ≤ 9223372036854775807) (hbytes : ys.length * by_ ≤ 140737488355328)
    (hr : OV P X ops Q rest ((d, .own ob.length) :: tm) (ob ++ [.arr false e ts ys])) : OV P X ops Q (⟨some d, .call { callee := .builtin .append, args := #[x, y], argTypes := #[t, t] }, ty, pos, after, gd⟩ :: rest) tm ob :=
  osto hw hN rfl (sappn hx hy hR hM hsz h63 hbytes) hr
end
end Go.Proofs.YtifpekpmnlcmoaaE
