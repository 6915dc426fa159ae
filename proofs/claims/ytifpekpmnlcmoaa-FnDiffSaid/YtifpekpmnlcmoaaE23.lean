/- The engine, part 23: a new object that takes over others' blocks; struct values; rows of rows made and appended to; nil bs an object. -/
import Derived.Test.YtifpekpmnlcmoaaE22
set_option linter.unusedVariables false
set_option linter.unusedSimpArgs false
namespace Go.Proofs.YtifpekpmnlcmoaaE
open Go Go.RowKit

section
variable {P : Program} {X : Cx} {Q : Exit → Act → World → Prop} {tm tm' : Tm} {ob ob' : List Ob} {a : Act} {w w' : World} {G G' : Gh} {M M' : List Nat}

/-- The objects ks are given up, a new one has their blocks, or new ones. -/
theorem st_abs (hG : GOK X ob G w) (hs0 : X.w0.heap.size ≤ w.heap.size) (ks : List Nat) {g : Value × List Nat} {o : Ob} (hk : Kp (fps (pickG G ks)) w w')
    (hnd : g.2.Nodup) (hb : ∀ b ∈ g.2, b < w'.heap.size ∧ (b ∈ fps (pickG G ks) ∨ w.heap.size ≤ b)) (hor : OR w' (okG X.Z (killG ks 0 G ++ [g])) (killG ks 0 G ++ [g]) o g) :
    St X (kill ks 0 ob ++ [o]) G (killG ks 0 G ++ [g]) ks w w' := by
  have hat : ∀ (i : Nat) (gi : Value × List Nat), (killG ks 0 G ++ [g])[i]? = some gi → (i = G.length ∧ gi = g) ∨ (i < G.length ∧ i ∉ ks ∧ G[i]? = some gi) ∨ (i < G.length ∧ i ∈ ks ∧ gi.2 = []) := by
    intro i gi h
    by_cases hi : i < G.length
    · rw [List.getElem?_append_left (by rw [killG_len]; exact hi)] at h
      obtain ⟨g0, h1, h2, h3⟩ := kg_cases h
      rcases h3 with ⟨h3, h4⟩ | ⟨h3, rfl⟩
      · exact .inr (.inr ⟨hi, h3, h4⟩)
      · exact .inr (.inl ⟨hi, h3, h1⟩)
    · rw [List.getElem?_append_right (by rw [killG_len]; omega), killG_len] at h
      rcases Nat.lt_or_ge 0 (i - G.length) with h' | h'
      · rw [List.getElem?_eq_none (by simp; omega)] at h
        cases h
      · have : i = G.length := by omega
        subst this
        simp at h
        exact .inl ⟨rfl, h.symm⟩
  have hkept : ∀ (k : Nat) (g1 : Value × List Nat), k ∉ ks → G[k]? = some g1 → (killG ks 0 G ++ [g])[k]? = some g1 := by
    intro k g1 hk h
    rw [List.getElem?_append_left (by rw [killG_len]; exact (List.getElem?_eq_some_iff.1 h).1), killG_get, h, Nat.zero_add]
    simp [hk]
  have hheads : ∀ (i : Nat) (v : Value) (f : List Nat), G[i]? = some (v, f) → ∃ f', (killG ks 0 G ++ [g])[i]? = some (v, f') := by
    intro i v f h
    rw [List.getElem?_append_left (by rw [killG_len]; exact (List.getElem?_eq_some_iff.1 h).1), killG_get, h, Nat.zero_add]
    by_cases hk : i ∈ ks
    · exact ⟨[], by simp [hk]⟩
    · exact ⟨f, by simp [hk]⟩
  have hkG : Kp (fps G) w w' := hk.mono (fun b hb _ => pick_sub b hb)
  have hap : ∀ (i : Nat) (gi : Value × List Nat), i ∉ ks → G[i]? = some gi → ∀ b ∈ gi.2, b ∉ fps (pickG G ks) := by
    intro i gi hik h b hbi hbg
    obtain ⟨k, gk, h1, h2, h3⟩ := pick_mem hbg
    exact nodup_apart hG.nodup i k gi gk (fun e => hik (e ▸ h1)) h h2 b hbi h3
  have hapg : ∀ (i : Nat) (gi : Value × List Nat), i ∉ ks → G[i]? = some gi → ∀ b ∈ gi.2, b ∉ g.2 := by
    intro i gi hik h b hbi hbg
    rcases (hb b hbg).2 with h1 | h1
    · exact hap i gi hik h b hbi h1
    · have := (hG.lt b (fps_mem h hbi)).1; omega
  have hbb : ∀ b ∈ fps (killG ks 0 G ++ [g]), (b ∈ fps G ∨ w.heap.size ≤ b) ∧ b < w'.heap.size := by
    intro b h
    obtain ⟨i, gi, hi, hb'⟩ := fps_get h
    rcases hat i gi hi with ⟨_, rfl⟩ | ⟨_, _, h3⟩ | ⟨_, _, h3⟩
    · exact ⟨(hb b hb').2.imp (pick_sub b) id, (hb b hb').1⟩
    · exact ⟨.inl (fps_mem h3 hb'), Nat.lt_of_lt_of_le (hG.lt b (fps_mem h3 hb')).1 hk.size⟩
    · rw [h3] at hb'; simp at hb'
  refine ⟨hk, gok_gen hG hs0 hkG (by simp [killG_len, kill_len, hG.len]) (nodup_of (fun i gi hi => ?_) (fun i j gi gj hij hi hj b hbi hbj => ?_)) hbb hheads (fun i o' gi h1 h2 => ?_), hheads, hkept, fun i gi h hm b hbg => ?_⟩
  · rcases hat i gi hi with ⟨_, rfl⟩ | ⟨_, _, h3⟩ | ⟨_, _, h3⟩
    · exact hnd
    · exact nodup_each hG.nodup i gi h3
    · rw [h3]; exact List.nodup_nil
  · rcases hat i gi hi with ⟨h1, rfl⟩ | ⟨_, h2, h3⟩ | ⟨_, _, h3⟩
    · rcases hat j gj hj with ⟨h4, rfl⟩ | ⟨_, h5, h6⟩ | ⟨_, _, h6⟩
      · omega
      · exact hapg j gj h5 h6 b hbj hbi
      · rw [h6] at hbj; simp at hbj
    · rcases hat j gj hj with ⟨h4, rfl⟩ | ⟨_, h5, h6⟩ | ⟨_, _, h6⟩
      · exact hapg i gi h2 h3 b hbi hbj
      · exact nodup_apart hG.nodup i j gi gj hij h3 h6 b hbi hbj
      · rw [h6] at hbj; simp at hbj
    · rw [h3] at hbi; simp at hbi
  · rcases hat i gi h2 with ⟨h3, rfl⟩ | ⟨h3, h4, h5⟩ | ⟨h3, h4, h5⟩
    · right
      rw [h3, hG.len, List.getElem?_append_right (by simp [kill_len])] at h1
      simp [kill_len] at h1
      rw [← h1]
      exact hor
    · left
      rw [List.getElem?_append_left (by rw [kill_len, ← hG.len]; exact h3), kill_get, Option.map_eq_some_iff] at h1
      obtain ⟨o1, h6, h7⟩ := h1
      rw [Nat.zero_add] at h7
      simp only [List.elem_eq_mem, h4, decide_false, cond_false] at h7
      subst h7
      exact ⟨h6, h5, fun b hbi => hk.block b (hG.lt b (fps_mem h5 hbi)).1 (hap i gi h4 h5 b hbi)⟩
    · right
      rw [List.getElem?_append_left (by rw [kill_len, ← hG.len]; exact h3), kill_get, Option.map_eq_some_iff] at h1
      obtain ⟨o1, h6, h7⟩ := h1
      rw [Nat.zero_add] at h7
      simp only [List.elem_eq_mem, h4, decide_true, cond_true] at h7
      subst h7
      obtain ⟨g0, q1, q2, q3⟩ := kg_cases (M := ks) (G := G) (k := i) (g := gi) (by rw [List.getElem?_append_left (by rw [killG_len]; exact h3)] at h2; exact h2)
      exact hd_ok (hG.ob i _ _ h6 q1) q2 h5
  · rcases hat i gi h with ⟨_, rfl⟩ | ⟨h3, h4, _⟩ | ⟨_, _, h5⟩
    · exact (hb b hbg).2
    · rcases hm with hm | hm
      · exact absurd hm h4
      · omega
    · rw [h5] at hbg; simp at hbg
theorem kg_last {ks : List Nat} {g : Value × List Nat} : (killG ks 0 G ++ [g])[G.length]? = some g := by
  rw [List.getElem?_append_right (by rw [killG_len]; exact Nat.le_refl _), killG_len]; simp
/-- What was ok stays so. -/
theorem abs_ok {ks : List Nat} {g : Value × List Nat} (hk : Kp (fps (pickG G ks)) w w') (hb : ∀ b ∈ g.2, (b ∈ fps (pickG G ks) ∨ w.heap.size ≤ b)) {b : Nat} (h : okG X.Z G b) (hl : b < w.heap.size) : okG X.Z (killG ks 0 G ++ [g]) b ∧ w'.heap[b]? = w.heap[b]? := by
  refine ⟨⟨fun hm => ?_, h.2⟩, hk.block b hl (fun hm => h.1 (pick_sub b hm))⟩
  obtain ⟨i, gi, hi, hb'⟩ := fps_get hm
  rcases Nat.lt_or_ge i G.length with h' | h'
  · rw [List.getElem?_append_left (by rw [killG_len]; exact h')] at hi
    obtain ⟨g0, h1, h2, h3⟩ := kg_cases hi
    rcases h3 with ⟨_, h3⟩ | ⟨_, rfl⟩
    · rw [h3] at hb'; simp at hb'
    · exact h.1 (fps_mem h1 hb')
  · rw [List.getElem?_append_right (by rw [killG_len]; exact h')] at hi
    have := List.mem_of_getElem? hi
    simp only [List.mem_singleton] at this
    subst this
    rcases hb b hb' with h4 | h4
    · exact h.1 (pick_sub b h4)
    · omega

/-- A struct's value. -/
def binfo (P : Program) (t : TypeId) : Option (List (Nat × Nat)) :=
  match P.underlying t with
  | some (.struct fs) => fs.toList.mapM fun f => (P.info? f.type).map fun i => (f.offset, i.size)
  | _ => none
def fillv (pl : List (Nat × Nat)) (zs : List AV) : List (Nat × List AV) → Option (List AV)
  | [] => some zs
  | (i, bs) :: r => match pl[i]? with
    | none => none
    | some (off, sz) => if bs.length = sz ∧ off + bs.length ≤ zs.length then fillv pl (putl zs off bs) r else none
inductive Bp (tm : Tm) (ob : List Ob) : List (Nat × Operand) → List (Nat × List AV) → Prop
  | n : Bp tm ob [] []
  | c {i : Nat} {x : Operand} {av : AV} {xs : List (Nat × Operand)} {qs : List (Nat × List AV)} (hx : rd tm x = some av) (h1 : av.one ob = true) (r : Bp tm ob xs qs) : Bp tm ob ((i, x) :: xs) ((i, [av]) :: qs)
  | g {i : Nat} {x : Operand} {bs : List AV} {xs : List (Nat × Operand)} {qs : List (Nat × List AV)} (hx : rd tm x = some (.agg bs)) (r : Bp tm ob xs qs) : Bp tm ob ((i, x) :: xs) ((i, bs) :: qs)
theorem fold_put : ∀ (l : List Value) (k : Nat) (cs : Array Value), k + l.length ≤ cs.size → ((l.zipIdx k).foldl (fun cs p => cs.setIfInBounds p.2 p.1) cs).toList = cs.toList.take k ++ l ++ cs.toList.drop (k + l.length)
  | [], k, cs, h => by simp
  | x :: l, k, cs, h => by
    simp only [List.zipIdx_cons, List.foldl_cons]
    rw [fold_put l (k + 1) _ (by simp at h ⊢; omega)]
    simp only [List.length_cons] at h
    rw [Array.toList_setIfInBounds, List.take_set, List.drop_set]
    apply List.ext_getElem?
    intro j
    simp only [List.append_assoc, List.getElem?_append, List.length_take, List.length_set, Array.length_toList, List.getElem?_set, List.length_cons, List.getElem?_take, List.getElem?_drop, List.getElem?_cons]
    have e1 : min (k + 1) cs.size = k + 1 := by omega
    have e2 : min k cs.size = k := by omega
    rw [e1, e2]
    by_cases hj1 : j < k
    · simp [hj1, show j < k + 1 by omega, show ¬ k = j by omega]
    · by_cases hj2 : j = k
      · subst hj2
        simp [show j < cs.size by omega]
      · rw [if_neg (show ¬ j < k + 1 by omega), if_neg hj1]
        have : ¬ j - k = 0 := by omega
        rw [show j - (k + 1) = j - k - 1 by omega]
        (repeat' split) <;> first | rfl | omega | (rw [List.getElem?_drop]; congr 1; omega)
theorem fold_off (l : List Value) (off : Nat) (cs : Array Value) : (l.zipIdx 0).foldl (fun cs p => cs.setIfInBounds (off + p.2) p.1) cs = (l.zipIdx off).foldl (fun cs p => cs.setIfInBounds p.2 p.1) cs := by
  have key : ∀ (l : List Value) (k : Nat) (cs : Array Value), (l.zipIdx k).foldl (fun cs p => cs.setIfInBounds (off + p.2) p.1) cs = (l.zipIdx (off + k)).foldl (fun cs p => cs.setIfInBounds p.2 p.1) cs := by
    intro l
    induction l with
    | nil => intro k cs; rfl
    | cons x l ih => intro k cs; simp only [List.zipIdx_cons, List.foldl_cons]; rw [ih (k + 1)]; rfl
  simpa using key l 0 cs
theorem fillv_ok (hG : GOK X ob G w) (pl : List (Nat × Nat)) {ok : Nat → Prop} : ∀ {ps : List (Nat × Operand)} {qs : List (Nat × List AV)} {zs bs : List AV} {cs : Array Value} {a : Act}, Bp tm ob ps qs → (∀ x av, rd tm x = some av → VR w ok G av (a.eval x)) → VRs w ok G zs cs.toList → fillv pl zs qs = some bs →
    ∃ cs', Instr.fill (pl.toArray[·]?) cs (ps.map fun p => (p.1, a.eval p.2)) = some cs' ∧ VRs w ok G bs cs'.toList := by
  intro ps qs zs bs cs a hB hv hz hf
  induction hB generalizing zs cs with
  | n => simp only [fillv, Option.some.injEq] at hf; subst hf; exact ⟨cs, rfl, hz⟩
  | @c i x av xs qs hx h1 r ih =>
    simp only [fillv] at hf
    split at hf
    · cases hf
    · rename_i off sz hp
      split at hf
      · rename_i hh
        have hl := VRs_len hz
        obtain ⟨h3, h4⟩ := one_ok hG h1 (hv x _ hx)
        simp only [List.length_cons, List.length_nil] at hh
        have hl' : cs.size = zs.length := by rw [← hl]; simp
        obtain ⟨cs', g1, g2⟩ := ih (cs := ((a.eval x).cells.zipIdx.foldl (fun cs (c, j) => cs.setIfInBounds (off + j) c) cs)) (zs := putl zs off [av]) (by
          rw [h4]
          have : (#[a.eval x].zipIdx.foldl (fun cs (c, j) => cs.setIfInBounds (off + j) c) cs).toList = putl cs.toList off [a.eval x] := by
            have := fold_put [a.eval x] off cs (by simp; omega)
            simpa [putl] using this
          rw [this]
          exact VRs_putl off hz ⟨_, _, rfl, hv x _ hx, rfl⟩ (by simpa using hh.2)) hf
        refine ⟨cs', ?_, g2⟩
        have hp' : pl.toArray[i]? = some (off, sz) := by simpa using hp
        simp only [List.map_cons, Instr.fill, hp']
        rw [if_neg (by rw [h4]; simp; omega)]
        exact g1
      · cases hf
  | @g i x bs' xs qs hx r ih =>
    simp only [fillv] at hf
    split at hf
    · cases hf
    · rename_i off sz hp
      split at hf
      · rename_i hh
        have hl := VRs_len hz
        have h3 := hv x _ hx
        simp only [VR] at h3
        obtain ⟨us, h4, h5⟩ := h3
        have hlu := VRs_len h5
        have hl' : cs.size = zs.length := by rw [← hl]; simp
        have hc : (a.eval x).cells = ⟨us⟩ := by rw [h4]; rfl
        obtain ⟨cs', g1, g2⟩ := ih (cs := ((a.eval x).cells.zipIdx.foldl (fun cs (c, j) => cs.setIfInBounds (off + j) c) cs)) (zs := putl zs off bs') (by
          rw [hc]
          have : ((⟨us⟩ : Array Value).zipIdx.foldl (fun cs (c, j) => cs.setIfInBounds (off + j) c) cs).toList = putl cs.toList off us := by
            have e0 : (⟨us⟩ : Array Value).zipIdx = (us.zipIdx 0).toArray := by simp
            rw [e0, List.foldl_toArray]
            rw [show (us.zipIdx 0).foldl (fun cs (x : Value × Nat) => match x with | (c, j) => cs.setIfInBounds (off + j) c) cs = (us.zipIdx off).foldl (fun cs p => cs.setIfInBounds p.2 p.1) cs from fold_off us off cs]
            exact fold_put us off cs (by omega)
          rw [this]
          exact VRs_putl off hz h5 hh.2) hf
        refine ⟨cs', ?_, g2⟩
        have hp' : pl.toArray[i]? = some (off, sz) := by simpa using hp
        simp only [List.map_cons, Instr.fill, hp']
        rw [if_neg (by rw [hc]; simp; omega)]
        exact g1
      · cases hf
theorem run_binfo {t : TypeId} {pl : List (Nat × Nat)} (h : binfo P t = some pl) : ∃ fs : Array Field, P.underlying t = some (.struct fs) ∧ ∀ w : World, (fs.mapM fun f => (do pure (f.offset, ← sizeOf f.type) : Sem (Nat × Nat))).run P w = .ok pl.toArray w := by
  unfold binfo at h
  split at h
  · rename_i fs hu
    refine ⟨fs, hu, fun w => ?_⟩
    have key : ∀ (l : List Field) (pl : List (Nat × Nat)), (l.mapM fun f => (P.info? f.type).map fun i => (f.offset, i.size)) = some pl → (l.mapM fun f => (do pure (f.offset, ← sizeOf f.type) : Sem (Nat × Nat))).run P w = .ok pl w := by
      intro l
      induction l with
      | nil => intro pl h; simp at h; subst h; simp
      | cons f l ih =>
        intro pl h
        simp only [List.mapM_cons, Option.bind_eq_bind, Option.bind_eq_some_iff, Option.map_eq_some_iff] at h
        obtain ⟨p, ⟨i, hi, hp⟩, q, hq, hr⟩ := h
        have := ih q hq
        simp only [Option.pure_def, Option.some.injEq] at hr
        subst hr hp
        simp only [List.mapM_cons, Sem.run_bind, sizeOf, typeInfo, run_program, hi, Sem.run_pure, Result.andThen_ok]
        simp only [sizeOf, typeInfo] at this
        rw [this]
        rfl
    have := key fs.toList pl h
    rw [← Array.toArray_toList (xs := fs), List.mapM_toArray]
    simp only [map_eq_pure_bind, Sem.run_bind, this, Result.andThen_ok, Sem.run_pure]
  · cases h
variable {ops : Array Oper} {rest : List Oper} {dst : Option Nat} {d : Nat} {ty : TypeId} {pos : String} {after : Array Edge} {gd : Option (Nat × Bool)}
theorem bld {t : TypeId} {ps : List (Nat × Operand)} {qs : List (Nat × List AV)} {pl : List (Nat × Nat)} {zs bs : List AV} (hP : binfo P t = some pl) (hz : zinfo P t = some zs) (hB : Bp tm ob ps qs) (hf : fillv pl zs qs = some bs) :
    Val P X tm ob ⟨dst, .build t ps.toArray, ty, pos, after, gd⟩ (.agg bs) := fun a w G hG hv => by
  obtain ⟨z, h1, h2⟩ := zinfo_ok hz
  obtain ⟨fs, hu, hm⟩ := run_binfo hP
  obtain ⟨h3, _⟩ := csts_ok h2 w (okG X.Z G) G
  obtain ⟨cs', g1, g2⟩ := fillv_ok (cs := z.cells) hG pl hB hv h3 hf
  refine ⟨.agg cs', fun w' _ => ?_, ⟨cs'.toList, rfl, g2⟩⟩
  have hm' := hm w'
  simp only [execOp, Instr.build, Sem.run_bind, h1 w', Result.andThen_ok, run_underlying hu, hm', List.map_toArray, g1, Sem.run_pure]

/-- nil, bs an object. -/
theorem wno {t : Nat} (dp : Bool) (e : TypeId) (ts : Tys) (ht : get tm t = some .nl) : Wk X tm ob ((t, .own ob.length) :: tm) (ob ++ [.arr dp e ts []]) := fun a w hs => by
  obtain ⟨G, hG, hv⟩ := hs.ex
  have hS : St X (ob ++ [.arr dp e ts []]) G (G ++ [(.slice none 0 0, [])]) [] w w := by
    have hor : OR w (okG X.Z (G ++ [(.slice none 0 0, [])])) (G ++ [(.slice none 0 0, [])]) (.arr dp e ts []) (.slice none 0 0, []) := by
      cases dp with
      | false => simp only [OR]; exact ⟨[], ⟨by simp, .inl ⟨rfl, rfl⟩⟩, fun j x h => by simp at h, rfl⟩
      | true => simp only [OR]; exact ⟨[], [], ⟨by simp, .inl ⟨rfl, rfl⟩⟩, rfl, fun j x f h => by simp at h, rfl⟩
    obtain ⟨g1, _, _⟩ := gok_new hG hs.kp.size (g := (.slice none 0 0, [])) (o := .arr dp e ts []) (Kp.refl [] w) List.nodup_nil (by simp) hor
    exact st_new (Kp.refl _ _) g1 (by simp)
  have hs2 := sg_st ⟨hs.n, hs.d, hs.kp, hG, hv⟩ hS
  refine ⟨hs2.n, hs2.d, hs2.kp, _, hs2.gok, fun t' av' h => ?_⟩
  simp only [get] at h
  split at h
  · rename_i he
    simp only [Option.some.injEq] at h
    subst h he
    refine ⟨(hv _ _ ht).1, ?_⟩
    have h2 := (hv _ _ ht).2
    simp only [VR] at h2 ⊢
    exact ⟨_, by rw [← hG.len, List.getElem?_append_right (Nat.le_refl _)]; simp; rfl, h2⟩
  · exact hs2.hv t' av' h
end
end Go.Proofs.YtifpekpmnlcmoaaE
