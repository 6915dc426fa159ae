/- The engine, part 30: an object under a new number; do two rows overlap; rows of several elements. -/
import Derived.Test.YtifpekpmnlcmoaaE29
set_option linter.unusedVariables false
set_option linter.unusedSimpArgs false
namespace Go.Proofs.YtifpekpmnlcmoaaE
open Go Go.RowKit

section
variable {P : Program} {X : Cx} {Q : Exit → Act → World → Prop} {tm tm' : Tm} {ob ob' : List Ob} {a : Act} {w w' : World} {G G' : Gh} {M M' : List Nat}
variable {ops : Array Oper} {rest : List Oper} {dst : Option Nat} {d : Nat} {ty : TypeId} {pos : String} {after : Array Edge} {gd : Option (Nat × Bool)}

/-- A row of the call's own under a new number. -/
theorem wmv {t k : Nat} {dp : Bool} {e : TypeId} {ts : Tys} {xs : List ts.den} (ht : get tm t = some (.own k)) (ho : ob[k]? = some (.arr dp e ts xs)) : Wk X tm ob ((t, .own ob.length) :: tm) (kill [k] 0 ob ++ [.arr dp e ts xs]) := fun a w hs => by
  obtain ⟨G, hG, hv⟩ := hs.ex
  have hkl : k < G.length := by rw [hG.len]; exact (List.getElem?_eq_some_iff.1 ho).1
  have hg : G[k]? = some G[k] := List.getElem?_eq_getElem hkl
  have hor := hG.ob k _ _ ho hg
  have hb : ∀ b ∈ G[k].2, b < w.heap.size ∧ (b ∈ fps (pickG G [k]) ∨ w.heap.size ≤ b) := fun b hb => ⟨(hG.lt b (fps_mem hg hb)).1, .inl ((pick_one hg).2 hb)⟩
  have hst := st_abs (w' := w) hG hs.kp.size [k] (g := G[k]) (o := .arr dp e ts xs) (Kp.refl _ w) (nodup_each hG.nodup k _ hg) hb (by
    cases dp with
    | false =>
      simp only [OR] at hor ⊢
      obtain ⟨inner, h1, h2, h3⟩ := hor
      exact ⟨inner, h1, fun j x hj => RSs_mono (Nat.le_refl _) (fun z h4 h5 => abs_ok (Kp.refl _ w) (fun z hz => (hb z hz).2) h4 h5) ts x _ (h2 j x hj), h3⟩
    | true => exact hor)
  have hs2 := sg_st ⟨hs.n, hs.d, hs.kp, hG, hv⟩ hst
  refine ⟨hs2.n, hs2.d, hs2.kp, _, hs2.gok, fun t' av' h => ?_⟩
  simp only [get] at h
  split at h
  · rename_i he
    simp only [Option.some.injEq] at h
    subst h he
    refine ⟨(hv _ _ ht).1, ?_⟩
    have h2 := (hv _ _ ht).2
    simp only [VR] at h2 ⊢
    obtain ⟨g, h3, h4⟩ := h2
    rw [hg] at h3
    cases h3
    exact ⟨_, by rw [← hG.len]; exact kg_last, h4⟩
  · exact hs2.hv t' av' h

/-- slices' overlaps: no. -/
theorem ovl {x y : Operand} {f j k lo n c : Nat} {tS tR e e1 : TypeId} {m : Nat} {ts ts1 : Tys} {ys : List ts1.den} {xs : List (Option ts.den)} {ats : Array TypeId} (hx : rd tm x = some (.own j)) (ho1 : ob[j]? = some (.arr false e1 ts1 ys)) (hy : rd tm y = some (.sub k lo n ts.sz)) (ho : ob[k]? = some (.prt e ts xs c)) (hjk : (j == k) = false)
    (hE : ∀ (v u : Value) (w : World), (callFunc f #[v, u]).run P w = ((Extern.SlicesOverlaps.overlaps #[tS, tS] #[tR] #[v, u]).run P w).andThen fun x w' => .ok (.value x) w') (ht : linfo P tS = some (e, m)) (hsz : 0 < ts.sz) (hsz1 : 0 < ts1.sz) (hc : 0 < c) (hys : 0 < ys.length) (hn : 0 < n) :
    Val P X tm ob ⟨dst, .call { callee := .value (.func f), args := #[x, y], argTypes := ats }, ty, pos, after, gd⟩ (.c .b false) := fun a w G hG hv => by
  have hjk' : j ≠ k := by simpa using hjk
  obtain ⟨hu, hs⟩ := linfo_u ht
  obtain ⟨A, c1, f1, h1, hc1, hm1, hg1, hA⟩ := own_val hG (hv x _ hx) ho1
  obtain ⟨b1, rfl⟩ := hA hys
  have hor := hG.ob j _ _ ho1 hg1
  simp only [OR] at hor
  obtain ⟨inner, hown, _, hf1⟩ := hor
  have hb1 : ∃ cur1 : Array Value, w.heap[b1]? = some (.cells cur1 e1 (0, 0)) ∧ cur1.size = c1 * ts1.sz := by
    rcases hown.2 with ⟨h, _⟩ | ⟨b', cap, cur, he, _, hh, _, _, hcs, _⟩
    · cases h
    · simp only [Value.slice.injEq, Option.some.injEq, Addr.mk.injEq, and_true] at he
      obtain ⟨rfl, _, rfl⟩ := he
      exact ⟨cur, hh, hcs⟩
  obtain ⟨cur1, hh1, hcs1⟩ := hb1
  have hyv := hv y _ hy
  simp only [VR] at hyv
  have key : ∀ w' : World, Kp X.Z w w' → (Extern.SlicesOverlaps.overlaps #[tS, tS] #[tR] #[a.eval x, a.eval y]).run P w' = .ok (.bool false) w' := fun w' hw => by
    rw [h1]
    have hbl1 : b1 < w.heap.size := (Array.getElem?_eq_some_iff.1 hh1).1
    have hz1 : b1 ∉ X.Z := hG.z b1 (fps_mem hg1 (by rw [hf1]; simp [Value.ownBlock]))
    have hh1' : w'.heap[b1]? = some (.cells cur1 e1 (0, 0)) := (hw.block b1 hbl1 hz1).trans hh1
    rcases hyv with ⟨h0, _⟩ | ⟨b, n0, c', f', hg, hy2⟩
    · omega
    · rw [hy2]
      obtain ⟨b2, inner2, cur, hv2, hg2, hcc, hcm, hh, hcs, _, _, _⟩ := prt_val (ok := fun _ => True) hG (x := .slice (some ⟨b, 0, none⟩) n0 c') (k := k) (by simp only [VR]; exact ⟨_, hg, rfl⟩) ho
      simp only [Value.slice.injEq, Option.some.injEq, Addr.mk.injEq, and_true] at hv2
      obtain ⟨rfl, rfl, rfl⟩ := hv2
      have hbl : b < w.heap.size := (Array.getElem?_eq_some_iff.1 hh).1
      have hz2 : b ∉ X.Z := hG.z b (fps_mem hg2 (by simp))
      have hh' : w'.heap[b]? = some (.cells cur e (0, 0)) := (hw.block b hbl hz2).trans hh
      have hne : b1 ≠ b := fun e' => nodup_apart hG.nodup j k _ _ hjk' hg1 hg2 b1 (by rw [hf1]; simp [Value.ownBlock]) (by simp [e'])
      have hpos : 0 < c' * ts.sz := Nat.mul_pos hc hsz
      exact Lib.run_overlaps_apart w' tS tR e hu m hs ⟨b1, 0, none⟩ ⟨b, lo * ts.sz, none⟩ ys.length c1 n (c' - lo) hne e1 e cur1.size cur.size (by simp [World.shape?, hh1']) (by simp [World.shape?, hh']) (by rw [hcs]; omega)
        (by simp [World.frozen?, hh1']) (by simp [World.frozen?, hh1'])
  refine ⟨.bool false, fun w' hw => ?_, vrb⟩
  have := hE (a.eval x) (a.eval y) w'
  rw [key w' hw, Result.andThen_ok] at this
  have ef : a.eval (.func f) = .func (.func f) #[] #[] := rfl
  simp [execOp, resolve, invoke, Deferred.ofValue, ef]
  exact this

/-- Elements, one behind the other. -/
inductive Isn (tm : Tm) (ts : Tys) : Nat → List (Nat × Operand) → List ts.den → Prop
  | n {i : Nat} : Isn tm ts i [] []
  | c {i : Nat} {x : Operand} {av : AV} {xd : ts.den} {ps : List (Nat × Operand)} {xs : List ts.den} (hx : rd tm x = some av) (hI : Is ts xd av) (r : Isn tm ts (i + 1) ps xs) : Isn tm ts i ((i, x) :: ps) (xd :: xs)
theorem isn_len {ts : Tys} {i : Nat} {ps : List (Nat × Operand)} {xs : List ts.den} (h : Isn tm ts i ps xs) : ps.length = xs.length := by
  induction h with
  | n => rfl
  | c _ _ _ ih => simp [ih]
theorem isn_ok {ts : Tys} {ok : Nat → Prop} {i : Nat} {ps : List (Nat × Operand)} {xs : List ts.den} (h : Isn tm ts i ps xs) : ∀ {a : Act} {cs : Array Value}, (∀ x av, rd tm x = some av → VR w ok G av (a.eval x)) → (i + xs.length) * ts.sz ≤ cs.size →
    ∃ (cs' : Array Value) (mid : List Value), Instr.fill (fun i => some (i * ts.sz, ts.sz)) cs (ps.map fun p => (p.1, a.eval p.2)) = some cs' ∧ cs'.toList = cs.toList.take (i * ts.sz) ++ mid ++ cs.toList.drop (i * ts.sz + mid.length) ∧ mid.length = xs.length * ts.sz ∧ ∀ (j : Nat) (x : ts.den), xs[j]? = some x → RSs w ok ts x (chunk ts.sz j mid) := by
  induction h with
  | n => intro a cs _ _; exact ⟨cs, [], rfl, by simp, by simp, fun j x h => by simp at h⟩
  | @c i x av xd ps xs hx hI r ih =>
    intro a cs hv hl
    have hR := is_ok hI (hv x _ hx)
    have hlen := RSs_len ts xd _ hR
    have hsz : (a.eval x).cells.size = ts.sz := by rw [← Array.length_toList]; exact hlen
    simp only [List.length_cons] at hl
    have hl1 : i * ts.sz + ts.sz ≤ cs.size := by
      have : (i + 1) * ts.sz ≤ (i + (xs.length + 1)) * ts.sz := Nat.mul_le_mul_right _ (by omega)
      rw [Nat.add_mul, Nat.one_mul] at this
      omega
    have e1 : ((a.eval x).cells.zipIdx.foldl (fun cs (c, j) => cs.setIfInBounds (i * ts.sz + j) c) cs).toList = cs.toList.take (i * ts.sz) ++ (a.eval x).cells.toList ++ cs.toList.drop (i * ts.sz + (a.eval x).cells.toList.length) := by
      have e0 : (a.eval x).cells.zipIdx = ((a.eval x).cells.toList.zipIdx 0).toArray := by apply Array.toList_inj.1; simp
      rw [e0, List.foldl_toArray]
      rw [show ((a.eval x).cells.toList.zipIdx 0).foldl (fun cs (x : Value × Nat) => match x with | (c, j) => cs.setIfInBounds (i * ts.sz + j) c) cs = ((a.eval x).cells.toList.zipIdx (i * ts.sz)).foldl (fun cs p => cs.setIfInBounds p.2 p.1) cs from fold_off _ _ cs]
      exact fold_put _ _ cs (by rw [hlen]; exact hl1)
    obtain ⟨cs0, hcs0⟩ : ∃ cs0, cs0 = (a.eval x).cells.zipIdx.foldl (fun cs (c, j) => cs.setIfInBounds (i * ts.sz + j) c) cs := ⟨_, rfl⟩
    rw [← hcs0] at e1
    have hcl : cs.toList.length = cs.size := Array.length_toList
    have hs0 : cs0.size = cs.size := by
      rw [← Array.length_toList, e1]
      simp only [List.length_append, List.length_take, List.length_drop, hlen]
      omega
    obtain ⟨cs', mid, h1, h2, h3, h4⟩ := ih (a := a) (cs := cs0) hv (by rw [hs0]; rw [show i + 1 + xs.length = i + (xs.length + 1) by omega]; exact hl)
    refine ⟨cs', (a.eval x).cells.toList ++ mid, ?_, ?_, by simp only [List.length_append, hlen, h3, List.length_cons, Nat.add_mul]; omega, fun j y hj => ?_⟩
    · simp only [List.map_cons, Instr.fill]
      have hcond : ((a.eval x).cells.size ≠ ts.sz || i * ts.sz + (a.eval x).cells.size > cs.size) = false := by
        rw [hsz]; simp; omega
      rw [if_neg (by rw [hcond]; simp), ← hcs0]
      exact h1
    · obtain ⟨T, hT⟩ : ∃ T, T = cs.toList.take (i * ts.sz) ++ (a.eval x).cells.toList := ⟨_, rfl⟩
      have e3 : T.length = i * ts.sz + ts.sz := by rw [hT]; simp only [List.length_append, List.length_take, hlen]; omega
      have hq : (i + 1) * ts.sz = i * ts.sz + ts.sz := by rw [Nat.add_mul, Nat.one_mul]
      rw [← hT, hlen] at e1
      rw [h2, e1, hq, List.take_append_of_le_length (by omega), List.take_of_length_le (by omega), List.drop_append, List.drop_of_length_le (by omega), List.nil_append, List.drop_drop, ← List.append_assoc, ← hT]
      congr 2
      simp only [List.length_append, hlen]
      omega
    · cases j with
      | zero =>
        simp only [List.getElem?_cons_zero, Option.some.injEq] at hj
        subst hj
        rw [chunk_all hlen]; exact hR
      | succ j =>
        have := chunk_right (sz := ts.sz) (n := 1) (j := j) (b := mid) (by rw [hlen, Nat.one_mul])
        rw [Nat.add_comm] at this
        rw [this]
        exact h4 j y (by simpa using hj)

/-- []T{x, y, ..} -/
theorem sbsn {t e : TypeId} {ts : Tys} {by_ : Nat} {ps : List (Nat × Operand)} {xs : List ts.den} {n : Nat} (hM : MI P t e ts by_) (h0 : 0 < ts.sz) (h24 : n * ts.sz ≤ 16777216) (hn : xs.length = n) (hI : Isn tm ts 0 ps xs) (hpos : (n == 0) = false) :
    Sto P X tm ob [] (ob ++ [.arr false e ts xs]) ⟨some d, .buildSlice t n ps.toArray, ty, pos, after, gd⟩ (.own ob.length) := fun a w G hs0 hG hv => by
  subst hn
  have hpos' : xs.length ≠ 0 := by simpa using hpos
  obtain ⟨i, z, hi, hz, hzc, hsize, hby⟩ := hM.info
  have hzs : z.cells.size = ts.sz := by rw [← Array.length_toList, hzc, zvs_len]
  have hsz0 : ((Array.range (xs.length * i.size)).map (z.cells[· % z.cells.size]!)).size = xs.length * ts.sz := by simp [hsize]
  obtain ⟨cs', mid, h1, h2, h3, h4⟩ := isn_ok (G := G) hI (a := a) (cs := (Array.range (xs.length * i.size)).map (z.cells[· % z.cells.size]!)) hv (by rw [hsz0, Nat.zero_add]; exact Nat.le_refl _)
  have hc : cs'.toList = mid := by
    rw [h2, Nat.zero_mul, List.take_zero, List.nil_append, Nat.zero_add, List.drop_of_length_le (by rw [Array.length_toList, hsz0, h3]; exact Nat.le_refl _), List.append_nil]
  have hl : cs'.size = xs.length * ts.sz := by rw [← Array.length_toList, hc, h3]
  obtain ⟨G', g1, g4⟩ := new_arr (e := e) (ts := ts) (n := xs.length) (c := xs.length) (cur := cs') (inner := mid) (xs := xs) hG hs0 rfl h3 (Nat.le_refl _) (by
    simp only [maxLen]
    have : xs.length * 1 ≤ xs.length * ts.sz := Nat.mul_le_mul_left _ h0
    omega) hl (by rw [hc, List.take_of_length_le (by rw [h3]; exact Nat.le_refl _)]) h4
  refine ⟨_, _, G', ?_, g1, g4⟩
  have q1 : ¬ xs.length * i.size > 2 ^ 24 := by rw [hsize]; omega
  have q2 : ¬ xs.length * i.size = 0 := by rw [hsize]; exact Nat.mul_ne_zero hpos' (by omega)
  have h1' : Instr.fill (fun j => some (j * i.size, i.size)) ((Array.range (xs.length * i.size)).map (z.cells[· % z.cells.size]!)) (ps.map fun p => (p.1, a.eval p.2)) = some cs' := by rw [hsize] at h1 ⊢; exact h1
  have h1'' : Instr.fill (fun j => some (j * i.size, i.size)) ((Array.range (xs.length * i.size)).map (z.cells[· % z.cells.size]!)) (ps.map fun (i, x) => (i, a.eval x)) = some cs' := h1'
  simp only [execOp, Instr.buildSlice, Sem.run_bind, run_underlying hM.u, Result.andThen_ok, sizeOf, typeInfo, run_program, hi, Sem.run_pure, if_neg q1, if_neg q2, zeroValue, hz, List.map_toArray, h1'']
  rfl

variable {Q : Exit → Act → World → Prop} {R : Act → World → Prop} {fuel : Nat} {listed : Array Bool}
theorem vvals {f n : Nat} {X' : Cx} {g : Operand} {caps : List AV} {xs : List Operand} {ats : Array TypeId} (he : Ent P f) {avs : List AV} {ks vs : List Nat} (hg : rd tm g = some (.fn f caps)) (ha : Ars tm ob (kf ob.length ks) vs xs (avs.take n)) (hc : Abs ob (kf ob.length ks) vs caps (avs.drop n))
    (hs : Sim X tm ob a w) : ∃ vals : List Value, (execOp a.eval ⟨dst, .call { callee := .value g, args := xs.toArray, argTypes := ats }, ty, pos, after, gd⟩).run P w = .ok (.enter f ⟨vals⟩) w ∧
      ∀ G, GOK X ob G w → (∀ t av, get tm t = some av → t < X.N ∧ VR w (okG X.Z G) G av (a.tmps.getD t undef)) → ∀ (Zc : List Nat) (Gc : Gh), Mv w w (okG X.Z G) (okG Zc Gc) G Gc (kf ob.length ks) →
      (∀ k ∈ vs, ∀ g, G[k]? = some g → ∀ b ∈ g.2, okG Zc Gc b) → VRs w (okG Zc Gc) Gc avs vals := by
  obtain ⟨G, hG, hv⟩ := hs.ex
  have h := rd_ok hv hg
  simp only [VR] at h
  obtain ⟨us, h1, h2⟩ := h
  refine ⟨xs.map a.eval ++ us, run_callv he h1, fun G hG hv Zc Gc m hvs => ?_⟩
  have h' := rd_ok hv hg
  simp only [VR] at h'
  obtain ⟨us', h1', h2'⟩ := h'
  have : us' = us := by rw [h1] at h1'; simpa using h1'.symm
  subst this
  rw [← List.take_append_drop n avs]
  exact VRs_app (Ars_ok m hG hv hvs ha) (Abs_ok m hG hvs hc h2')
theorem vcl {f : Nat} {ι κ : Type} {avf : ι → List AV} {obf : ι → List Ob} {pre : ι → Prop} {post : ι → κ → Prop} {F : ι → κ → AV × List Ob} {g : Operand} {caps : List AV} {xs : List Operand} {ats : Array TypeId} (hF : Fr P f avf obf pre post F) (x : ι) (ks vs : List Nat)
    (hg : rd tm g = some (.fn f caps)) (n : Nat) (ha : Ars tm ob (kf ob.length ks) vs xs ((avf x).take n)) (hc : Abs ob (kf ob.length ks) vs caps ((avf x).drop n)) (hx : pre x) (hkn : ks.Nodup) (hap : ∀ k ∈ ks, k ∉ vs) (ho : Wo ob (kf ob.length ks) ks (obf x)) (hlen : ∀ y, ks.length ≤ (F x y).2.length) (hfree : vs = [] ∨ ∀ y, ((F x y).1.free = true ∧ ∀ o ∈ (F x y).2, o.free = true))
    (hr : ∀ y, post x y → OV P X ops Q rest ((d, (F x y).1.ren (gf ob.length ks)) :: tm) (newob ob ks (F x y).2)) (hw : Wn ops ⟨some d, .call { callee := .value g, args := xs.toArray, argTypes := ats }, ty, pos, after, gd⟩ tm) (hN : Nat.blt d X.N = true := by rfl) :
    OV P X ops Q (⟨some d, .call { callee := .value g, args := xs.toArray, argTypes := ats }, ty, pos, after, gd⟩ :: rest) tm ob := fun a w hs => by
  refine wpList_step fun K hK => ?_
  rw [if_pos (wn_ok hw hs)]
  obtain ⟨vals, h1, h2⟩ := vvals (X' := X) (dst := some d) (ty := ty) (pos := pos) (after := after) (gd := gd) (ats := ats) hF.1 hg ha hc hs
  unfold Oper.wp
  rw [h1, Oper.upon_enter]
  refine (call_simy hF.2 x hx ks vs hs hkn hap ho hlen hfree h2).mono ?_
  rintro e w' ⟨y, hy, v, Gn, rfl, g1, g2, g3, g4⟩
  refine hK _ _ (hr y hy _ _ ?_)
  exact sim_put g1 g2 g3 (L hN) g4
theorem vce {f : Nat} {ι : Type} {avf : ι → List AV} {obf : ι → List Ob} {pre : ι → Prop} {F : ι → AV × List Ob} {g : Operand} {caps : List AV} {xs : List Operand} {ats : Array TypeId} (hF : Fe P f avf obf pre F) (x : ι) (ks vs : List Nat)
    (hg : rd tm g = some (.fn f caps)) (n : Nat) (ha : Ars tm ob (kf ob.length ks) vs xs ((avf x).take n)) (hc : Abs ob (kf ob.length ks) vs caps ((avf x).drop n)) (hx : pre x) (hkn : ks.Nodup) (hap : ∀ k ∈ ks, k ∉ vs) (ho : Wo ob (kf ob.length ks) ks (obf x)) (hlen : Nat.ble ks.length (F x).2.length = true) (hfree : vs = [] ∨ ((F x).1.free = true ∧ ∀ o ∈ (F x).2, o.free = true))
    (hr : OV P X ops Q rest ((d, (F x).1.ren (gf ob.length ks)) :: tm) (newob ob ks (F x).2)) (hw : Wn ops ⟨some d, .call { callee := .value g, args := xs.toArray, argTypes := ats }, ty, pos, after, gd⟩ tm) (hN : Nat.blt d X.N = true := by rfl) :
    OV P X ops Q (⟨some d, .call { callee := .value g, args := xs.toArray, argTypes := ats }, ty, pos, after, gd⟩ :: rest) tm ob :=
  vcl (fe_fr hF) x ks vs hg n ha hc hx hkn hap ho (fun _ => Le hlen) (hfree.imp id (fun h _ => h)) (fun _ _ => hr) hw hN
theorem xvcl {m f : Nat} {ι κ : Type} {avf : ι → List AV} {obf : ι → List Ob} {pre : ι → Prop} {post : ι → κ → Prop} {F : ι → κ → AV × List Ob} {g : Operand} {caps : List AV} {xs : List Operand} {ats : Array TypeId} (hF : Fr P f avf obf pre post F) (x : ι) (ks vs M' : List Nat)
    (hg : rd tm g = some (.fn f caps)) (n : Nat) (ha : Ars tm ob (kf ob.length ks) vs xs ((avf x).take n)) (hc : Abs ob (kf ob.length ks) vs caps ((avf x).drop n)) (hx : pre x) (hkn : ks.Nodup) (hap : ∀ k ∈ ks, k ∉ vs) (ho : Wo ob (kf ob.length ks) ks (obf x)) (hlen : ∀ y, ks.length ≤ (F x y).2.length) (hfree : vs = [] ∨ ∀ y, ((F x y).1.free = true ∧ ∀ o ∈ (F x y).2, o.free = true))
    (hr : ∀ y, post x y → HV P X ops R M' fuel (listed.setIfInBounds m true) ((d, (F x y).1.ren (gf ob.length ks)) :: tm) (newob ob ks (F x y).2)) (hw : Wn ops ⟨some d, .call { callee := .value g, args := xs.toArray, argTypes := ats }, ty, pos, after, gd⟩ tm)
    (hi : ops[m]? = some ⟨some d, .call { callee := .value g, args := xs.toArray, argTypes := ats }, ty, pos, after, gd⟩ := by rfl) (hM : effB M ks M' ob.length = true := by rfl) (hN : Nat.blt d X.N = true := by rfl) : EV P X ops R M fuel listed tm ob m := fun a w G hs => by
  refine wpOp_of hi (wn_ok hw (sg_sim hs)) ?_
  obtain ⟨vals, h1, h2⟩ := vvals (X' := X) (dst := some d) (ty := ty) (pos := pos) (after := after) (gd := gd) (ats := ats) hF.1 hg ha hc (sg_sim hs)
  unfold Oper.wp
  rw [h1, Oper.upon_enter]
  refine (call_sg hF.2 x hx ks vs hs hkn hap ho hlen hfree h2).mono ?_
  rintro e w' ⟨y, hy, v, Gn, rfl, g1, g2⟩
  exact ev_core (o := ⟨some d, .call { callee := .value g, args := xs.toArray, argTypes := ats }, ty, pos, after, gd⟩) (v := v) hs g1 hM (sg_put (sg_st hs g1) (L hN) g2) (hr y hy)
theorem xvce {m f : Nat} {ι : Type} {avf : ι → List AV} {obf : ι → List Ob} {pre : ι → Prop} {F : ι → AV × List Ob} {g : Operand} {caps : List AV} {xs : List Operand} {ats : Array TypeId} (hF : Fe P f avf obf pre F) (x : ι) (ks vs M' : List Nat)
    (hg : rd tm g = some (.fn f caps)) (n : Nat) (ha : Ars tm ob (kf ob.length ks) vs xs ((avf x).take n)) (hc : Abs ob (kf ob.length ks) vs caps ((avf x).drop n)) (hx : pre x) (hkn : ks.Nodup) (hap : ∀ k ∈ ks, k ∉ vs) (ho : Wo ob (kf ob.length ks) ks (obf x)) (hlen : Nat.ble ks.length (F x).2.length = true) (hfree : vs = [] ∨ ((F x).1.free = true ∧ ∀ o ∈ (F x).2, o.free = true))
    (hr : HV P X ops R M' fuel (listed.setIfInBounds m true) ((d, (F x).1.ren (gf ob.length ks)) :: tm) (newob ob ks (F x).2)) (hw : Wn ops ⟨some d, .call { callee := .value g, args := xs.toArray, argTypes := ats }, ty, pos, after, gd⟩ tm)
    (hi : ops[m]? = some ⟨some d, .call { callee := .value g, args := xs.toArray, argTypes := ats }, ty, pos, after, gd⟩ := by rfl) (hM : effB M ks M' ob.length = true := by rfl) (hN : Nat.blt d X.N = true := by rfl) : EV P X ops R M fuel listed tm ob m :=
  xvcl (fe_fr hF) x ks vs M' hg n ha hc hx hkn hap ho (fun _ => Le hlen) (hfree.imp id (fun h _ => h)) (fun _ _ => hr) hw hi hM hN
end
end Go.Proofs.YtifpekpmnlcmoaaE
