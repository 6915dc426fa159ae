/- The engine, part 26: append onto a part, rows of rows, least and greatest, bytes as a text. -/
import Derived.Test.YtifpekpmnlcmoaaE25
import Derived.Lib.SlBytesRow
set_option linter.unusedVariables false
set_option linter.unusedSimpArgs false
namespace Go.Proofs.YtifpekpmnlcmoaaE
open Go Go.RowKit

section
variable {P : Program} {X : Cx} {Q : Exit → Act → World → Prop} {tm tm' : Tm} {ob ob' : List Ob} {a : Act} {w w' : World} {G G' : Gh} {M M' : List Nat}
variable {ops : Array Oper} {rest : List Oper} {dst : Option Nat} {d : Nat} {ty : TypeId} {pos : String} {after : Array Edge} {gd : Option (Nat × Bool)}

/-- append(s[:i], ..) where there is room. -/
theorem sappr {t e : TypeId} {by_ k n c : Nat} {x y : Operand} {ts : Tys} {xs : List (Option ts.den)} {ys : List ts.den} {av : AV} (hx : rd tm x = some (.sub k 0 n ts.sz)) (ho : ob[k]? = some (.prt e ts xs c)) (hy : rd tm y = some av) (hR : Rx ob ts ys av) (hM : MI P t e ts by_) (hn : n ≤ xs.length) (hroom : n + ys.length ≤ c) :
    Sto P X tm ob [k] (kill [k] 0 ob ++ [.prt e ts (xs.take n ++ ys.map some) c]) ⟨some d, .call { callee := .builtin .append, args := #[x, y], argTypes := #[t, t] }, ty, pos, after, gd⟩ (.own ob.length) := fun a w G hs0 hG hv => by
  obtain ⟨i, z, hi, hz, hzc, hsize, hby⟩ := hM.info
  obtain ⟨A, c2, news, hyv, h1, h2, h3, h4, h5⟩ := rx_ok hG hR (hv y _ hy)
  have hxv := hv x _ hx
  simp only [VR] at hxv
  rcases hxv with ⟨_, h0, _⟩ | ⟨b, n0, c', f, hg, hxv⟩
  · omega
  · obtain ⟨b2, inner, cur, hv2, hg2, hc, hcm, hh, hcs, hil, htk, hel⟩ := prt_val (ok := fun _ => True) hG (x := .slice (some ⟨b, 0, none⟩) n0 c') (k := k) (by simp only [VR]; exact ⟨_, hg, rfl⟩) ho
    simp only [Value.slice.injEq, Option.some.injEq, Addr.mk.injEq, and_true] at hv2
    obtain ⟨rfl, rfl, rfl⟩ := hv2
    rw [Nat.zero_mul, Nat.sub_zero] at hxv
    have hbl : b < w.heap.size := (Array.getElem?_eq_some_iff.1 hh).1
    have hle : (n + ys.length) * ts.sz ≤ c' * ts.sz := Nat.mul_le_mul_right _ hroom
    rw [Nat.add_mul] at hle
    have hle2 : n * ts.sz ≤ xs.length * ts.sz := Nat.mul_le_mul_right _ hn
    have hfit : n * ts.sz + news.length ≤ cur.toList.length := by
      have e0 : cur.toList.length = cur.size := Array.length_toList
      rw [e0, hcs, h1]; exact hle
    have hK : Kp (fps (pickG G [k])) w (w.setRow b (putl cur.toList (n * ts.sz) news).toArray) := kp_setRow.mono (fun z hz _ => by simp only [List.mem_singleton] at hz; subst hz; exact (pick_one hg2).2 (by simp))
    have hb : ∀ z ∈ ([b] : List Nat), z < (w.setRow b (putl cur.toList (n * ts.sz) news).toArray).heap.size ∧ (z ∈ fps (pickG G [k]) ∨ w.heap.size ≤ z) := fun z hz => by
      simp only [List.mem_singleton] at hz; subst hz
      exact ⟨by rw [setRow_size]; exact hbl, .inl ((pick_one hg2).2 (by simp))⟩
    have hpl2 : (putl cur.toList (n * ts.sz) news).length = c' * ts.sz := by rw [putl_len hfit, Array.length_toList, hcs]
    have hlen : (xs.take n ++ ys.map some).length = n + ys.length := by simp; omega
    have hst := st_abs hG hs0 [k] (g := (.slice (some ⟨b, 0, none⟩) (n + ys.length) c', [b])) (o := .prt e ts (xs.take n ++ ys.map some) c') hK (by simp) hb (by
      simp only [OR, hlen]
      refine ⟨b, (putl cur.toList (n * ts.sz) news).take ((n + ys.length) * ts.sz), rfl, ⟨by rw [List.length_take, hpl2, Nat.add_mul]; omega, .inr ⟨b, c', _, rfl, Nat.zero_le _, setRow_heap w b _ _ _ _ hh, hroom, by simpa only [maxLen] using hcm, by rw [List.size_toArray, hpl2], rfl⟩⟩, fun j x' hj => ?_⟩
      have hjl := (List.getElem?_eq_some_iff.1 hj).1
      rw [hlen] at hjl
      rw [chunk_take (Nat.mul_le_mul_right _ hjl)]
      have mono : ∀ b', okG X.Z G b' → b' < w.heap.size → okG X.Z (killG [k] 0 G ++ [(Value.slice (some ⟨b, 0, none⟩) (n + ys.length) c', [b])]) b' ∧ (w.setRow b (putl cur.toList (n * ts.sz) news).toArray).heap[b']? = w.heap[b']? := fun z h6 h7 => abs_ok hK (fun z hz => (hb z hz).2) h6 h7
      by_cases hjn : j < n
      · rw [List.getElem?_append_left (by simp; omega), List.getElem?_take_of_lt hjn] at hj
        rw [chunk_putl hfit (.inl (Nat.mul_le_mul_right _ hjn))]
        have := hel j x' hj
        rw [← htk, chunk_take (Nat.mul_le_mul_right _ (by omega))] at this
        exact RSs_mono hK.size mono ts x' _ this
      · rw [List.getElem?_append_right (by simp; omega), List.getElem?_map, Option.map_eq_some_iff] at hj
        obtain ⟨y', hy1, hy2⟩ := hj
        cases hy2
        have e1 : min n xs.length = n := Nat.min_eq_left hn
        rw [List.length_take, e1] at hy1
        have := h4 _ _ hy1
        obtain ⟨q, rfl⟩ : ∃ q, j = n + q := ⟨j - n, by omega⟩
        rw [Nat.add_sub_cancel_left] at this
        rw [chunk_putl_in hfit (by rw [h1]; exact Nat.mul_le_mul_right _ (by omega))]
        exact RSs_mono hK.size mono ts _ _ this)
    refine ⟨.slice (some ⟨b, 0, none⟩) (n + ys.length) c', _, _, ?_, hst, ?_⟩
    · cases A with
      | none =>
        have h0 := h2 rfl
        have : news = [] := List.eq_nil_of_length_eq_zero (by rw [h1, h0]; simp)
        subst this
        have hsr : w.setRow b (putl cur.toList (n * ts.sz) []).toArray = w := by
          have : putl cur.toList (n * ts.sz) [] = cur.toList := by simp [putl]
          rw [this, Array.toArray_toList]
          exact setRow_self w b cur e (0, 0) hh
        rw [hsr]
        simp [execOp, resolve, invoke, builtin, Builtin.append_, hxv, hyv, run_underlying hM.u, sizeOf, typeInfo, hi, Builtin.lenOf, hroom, Builtin.firstCells, storeCells]
      | some ad =>
        have hr := run_append_room (P := P) w t ty e i hM.u hi b n c' cur hh ad ys.length c2 news (by rw [hsize]; exact h1) (h3 ad rfl) h5 hroom (by rw [hsize]; simpa using hfit)
        rw [hsize] at hr
        simp only [execOp, resolve, invoke, builtin, Sem.run_bind, Sem.run_pure, Result.andThen_ok, List.map_toArray, List.map_cons, List.map_nil, hxv, hyv, hr]
        rfl
    · simp only [VR]
      exact ⟨_, by rw [← hG.len]; exact kg_last, rfl⟩

/-- append(s[:i], make(S, j)...) where there is no room. -/
theorem sappz {t tn e : TypeId} {by_ k n c : Nat} {x y : Operand} {ts : Tys} {xs : List (Option ts.den)} {ys : List ts.den} {kk kn : IntKind} {j : Int} (hx : rd tm x = some (.sub k 0 n ts.sz)) (ho : ob[k]? = some (.prt e ts xs c)) (hy : rd tm y = some (.c (.i kk) j)) (hxs : xs.take n = ys.map some) (hM : MI P t e ts by_) (htn : P.underlying tn = some (.int kn)) (hsz : 0 < ts.sz)
    (hn : n ≤ xs.length) (h0 : 0 < j) (hroom : (c : Int) < n + j) (h63 : n + j ≤ 9223372036854775807) (hb : (n + j.toNat) * by_ ≤ 140737488355328) :
    Sto P X tm ob [] (ob ++ [.arr false e ts (ys ++ List.replicate j.toNat ts.z)]) ⟨some d, .call { callee := .builtin .append, args := #[x, y], argTypes := #[t, tn] }, ty, pos, after, gd⟩ (.own ob.length) := fun a w G hs0 hG hv => by
  obtain ⟨i, z, hi, hz, hzc, hsize, hby⟩ := hM.info
  have hzs : z.cells.size = ts.sz := by rw [← Array.length_toList, hzc, zvs_len]
  have hyl : ys.length = n := by have := congrArg List.length hxs; simp at this; omega
  obtain ⟨q, rfl⟩ := Int.eq_ofNat_of_zero_le (show 0 ≤ j by omega)
  simp only [Int.toNat_natCast] at hb ⊢
  have hxv := hv x _ hx
  simp only [VR] at hxv
  have key : ∀ (b : Option Addr) (cc : Nat), a.eval x = .slice b n cc → cc < n + q → cc * by_ ≤ 140737488355328 → ∀ olds : List Value, (Builtin.firstCells ts.sz n (.slice b n cc)).run P w.drew = .ok olds.toArray w.drew → olds.length = n * ts.sz → (∀ (j : Nat) (y : ts.den), ys[j]? = some y → RSs w (okG X.Z G) ts y (chunk ts.sz j olds)) →
      ∃ v w' G', (execOp a.eval ⟨some d, .call { callee := .builtin .append, args := #[x, y], argTypes := #[t, tn] }, ty, pos, after, gd⟩).run P w = .ok (.value v) w' ∧ St X (ob ++ [.arr false e ts (ys ++ List.replicate q ts.z)]) G G' [] w w' ∧ VR w' (okG X.Z G') G' (.own ob.length) v := by
    intro b cc hxe hcc hccb olds hold hol hel
    have hr := Lib.run_append_grow_zeros (P := P) w t tn ty e i z kk kn hM.u htn hi hz b n cc olds (by rw [hsize]; exact hold) q (by omega) (by rw [hsize]; exact hsz) hcc (by omega) (by rw [hby]; have := Nat.mul_le_mul_right by_ (show q ≤ n + q by omega); omega) (by rw [hby]; exact growslice_fits hcc hb)
    obtain ⟨C, hC⟩ : ∃ C, C = grownCap w (n + q) cc e := ⟨_, rfl⟩
    have hC1 : n + q ≤ C := by rw [hC]; exact grownCap_ge w _ _ _
    have hC2 : C ≤ maxLen := by rw [hC]; exact grownCap_le_maxLen w _ _ _ (by simp only [maxLen]; omega)
    rw [← hC] at hr
    have hG2 : GOK X ob G w.drew := gok_kp hG (Kp.refl [] w).drew
    have hl1 : (olds.toArray ++ Builtin.zeroCells z.cells q).toList.length = (n + q) * ts.sz := by
      simp [Builtin.zeroCells, hol, hzs, Nat.add_mul]
    obtain ⟨G', g1, g4⟩ := new_arr (w := w.drew) (e := e) (ts := ts) (n := n + q) (c := C) (cur := olds.toArray ++ Builtin.zeroCells z.cells q ++ Builtin.zeroCells z.cells (C - (n + q))) (inner := (olds.toArray ++ Builtin.zeroCells z.cells q).toList) (xs := ys ++ List.replicate q ts.z) hG2 hs0 (by simp [hyl]) hl1 hC1 hC2
      (by simp only [Array.size_append, List.size_toArray, size_zeroCells, hzs, hol, ← Nat.add_mul]; congr 1; omega)
      (by rw [Array.toList_append, List.take_append_of_le_length (by rw [hl1]; exact Nat.le_refl _), List.take_of_length_le (by rw [hl1]; exact Nat.le_refl _)])
      (fun p y' hp => by
        rw [Array.toList_append, List.toList_toArray]
        by_cases hpn : p < n
        · rw [List.getElem?_append_left (by omega)] at hp
          rw [chunk_left (by rw [hol]; exact Nat.mul_le_mul_right _ hpn)]
          exact RSs_mono (w := w) (w' := w.drew) (Nat.le_refl _) (fun b h1 h2 => ⟨h1, rfl⟩) ts y' _ (hel p y' hp)
        · rw [List.getElem?_append_right (by omega), List.getElem?_replicate] at hp
          split at hp
          · rename_i hpq
            simp only [Option.some.injEq] at hp
            subst hp
            obtain ⟨r, rfl⟩ : ∃ r, p = n + r := ⟨p - n, by omega⟩
            rw [chunk_right hol, zeroCells_chunk hzs hsz (by omega), hzc]
            exact RSs_zero ts
          · cases hp)
    refine ⟨_, _, G', ?_, ⟨(Kp.refl _ w).drew.trans g1.kp, g1.gok, g1.hd, g1.fr, g1.ne⟩, g4⟩
    simp only [execOp, resolve, invoke, builtin, Sem.run_bind, Sem.run_pure, Result.andThen_ok, List.map_toArray, List.map_cons, List.map_nil, hxe, (vr_i (hv y _ hy)).1, hr]
    rfl
  rcases hxv with ⟨_, h0', _⟩ | ⟨b, n0, c', f, hg, hxv⟩
  · omega
  · obtain ⟨b2, inner, cur, hv2, hg2, hc, hcm, hh, hcs, hil, htk, hel⟩ := prt_val (ok := fun _ => True) hG (x := .slice (some ⟨b, 0, none⟩) n0 c') (k := k) (by simp only [VR]; exact ⟨_, hg, rfl⟩) ho
    simp only [Value.slice.injEq, Option.some.injEq, Addr.mk.injEq, and_true] at hv2
    obtain ⟨rfl, rfl, rfl⟩ := hv2
    rw [Nat.zero_mul, Nat.sub_zero] at hxv
    have hle2 : n * ts.sz ≤ xs.length * ts.sz := Nat.mul_le_mul_right _ hn
    refine key _ _ hxv (by omega) (by have := Nat.mul_le_mul_right by_ (show c' ≤ n + q by omega); omega) (inner.take (n * ts.sz)) ?_ (by rw [List.length_take, hil]; omega) (fun j y' hj => ?_)
    · refine run_firstCells_some w.drew ts.sz n ⟨b, 0, none⟩ n c' (inner.take (n * ts.sz)) (by rw [List.length_take, hil]; omega) (fun j v hj => ?_)
      rw [List.getElem?_take] at hj
      split at hj
      · rw [← htk, List.getElem?_take] at hj
        split at hj
        · rw [Addr.add_lit, cell_blk (w := w.drew) (vs := cur.toList) (t := e) (fr := (0, 0)) hh, Nat.zero_add]; exact hj
        · cases hj
      · cases hj
    · have hjn := (List.getElem?_eq_some_iff.1 hj).1
      have : xs[j]? = some (some y') := by
        have := congrArg (fun l => l[j]?) hxs
        simp only [List.getElem?_take_of_lt (show j < n by omega), List.getElem?_map, hj, Option.map_some] at this
        exact this
      rw [chunk_take (Nat.mul_le_mul_right _ (by omega))]
      exact hel j y' this

/-- A row of the call's own as a value with its blocks. -/
theorem RDs_of_flat {w : World} {ok : Nat → Prop} : ∀ (ts : Tys) (x : ts.den) (cs : List Value), ts.flat = true → RSs w ok ts x cs → RDs w ts x cs []
  | .nil, _, cs, _, h => by simp only [RSs] at h; simp only [RDs]; exact ⟨h, trivial⟩
  | .cons t ts, (x, xs), cs, hf, h => by
    simp only [Tys.flat, Bool.and_eq_true] at hf
    simp only [RSs] at h
    simp only [RDs]
    obtain ⟨v, cs', hc, h1, h2⟩ := h
    refine ⟨v, cs', [], [], hc, rfl, ?_, RDs_of_flat ts xs cs' hf.2 h2⟩
    cases t with
    | l _ => cases hf.1
    | i k => exact ⟨h1, rfl⟩
    | b => exact ⟨h1, rfl⟩
    | s => exact ⟨h1, rfl⟩
    | v => exact ⟨h1, rfl⟩
theorem flatten_nil {n : Nat} : (List.replicate n ([] : List Nat)).flatten = [] := by induction n with
  | zero => rfl
  | succ n ih => simp [List.replicate_succ]
theorem or_RD {ok : Nat → Prop} {dp : Bool} {e : TypeId} {ts : Tys} {xs : List ts.den} {g : Value × List Nat} (hd : (dp || ts.flat) = true) (h : OR w ok G (.arr dp e ts xs) g) : RD w (.l ts) xs g.1 g.2 := by
  cases dp with
  | true =>
    simp only [OR] at h
    obtain ⟨inner, fs, ho, hl, hx, he⟩ := h
    simp only [RD]
    exact ⟨e, inner, fs, ho, hl, hx, he⟩
  | false =>
    simp only [Bool.false_or] at hd
    simp only [OR] at h
    obtain ⟨inner, ho, hx, he⟩ := h
    simp only [RD]
    refine ⟨e, inner, List.replicate xs.length [], ho, by simp, fun j x f hj hf => ?_, by rw [he, flatten_nil, List.append_nil]⟩
    rw [List.getElem?_replicate] at hf
    split at hf
    · simp only [Option.some.injEq] at hf; subst hf
      exact RDs_of_flat ts x _ hd (hx j x hj)
    · cases hf
/-- What cells hold that are the call's own: the objects that go in. -/
inductive Isd (ob : List Ob) : (ts : Tys) → ts.den → List AV → List Nat → Prop
  | n : Isd ob .nil () [] []
  | c {t : Ty} {ts : Tys} {x : t.den} {xs : ts.den} {bs : List AV} {ks : List Nat} (hf : t.flat = true) (r : Isd ob ts xs bs ks) : Isd ob (.cons t ts) (x, xs) (.c t x :: bs) ks
  | o {k : Nat} {dp : Bool} {e : TypeId} {ts' ts : Tys} {ys : List ts'.den} {xs : ts.den} {bs : List AV} {ks : List Nat} (ho : ob[k]? = some (.arr dp e ts' ys)) (hd : (dp || ts'.flat) = true) (r : Isd ob ts xs bs ks) : Isd ob (.cons (.l ts') ts) (ys, xs) (.own k :: bs) (k :: ks)
  | nl {ts' ts : Tys} {xs : ts.den} {bs : List AV} {ks : List Nat} (r : Isd ob ts xs bs ks) : Isd ob (.cons (.l ts') ts) ([], xs) (.nl :: bs) ks
theorem isd_ok (hG : GOK X ob G w) {ok : Nat → Prop} {ts : Tys} {x : ts.den} {bs : List AV} {ks : List Nat} (h : Isd ob ts x bs ks) : ∀ {vs : List Value}, VRs w ok G bs vs → RDs w ts x vs (fps (pickG G ks)) ∧ ∀ u ∈ vs, u.oneCell' = true := by
  induction h with
  | n => intro vs hv; simp only [VRs] at hv; subst hv; exact ⟨⟨rfl, rfl⟩, by simp⟩
  | @c t ts x xs bs ks hf r ih =>
    intro vs hv
    simp only [VRs, VR] at hv
    obtain ⟨v, vs', rfl, h1, h2⟩ := hv
    obtain ⟨h3, h4⟩ := ih h2
    have hone := RS_one t x v h1
    refine ⟨?_, fun u hu => by rcases List.mem_cons.1 hu with rfl | hu; exact hone; exact h4 u hu⟩
    simp only [RDs]
    refine ⟨v, vs', [], _, rfl, rfl, ?_, h3⟩
    cases t with
    | l _ => cases hf
    | i k => exact ⟨h1, rfl⟩
    | b => exact ⟨h1, rfl⟩
    | s => exact ⟨h1, rfl⟩
    | v => exact ⟨h1, rfl⟩
  | @o k dp e ts' ts ys xs bs ks ho hd r ih =>
    intro vs hv
    simp only [VRs] at hv
    obtain ⟨v, vs', rfl, h1, h2⟩ := hv
    obtain ⟨h3, h4⟩ := ih h2
    have hone := (one_ok hG (ob := ob) (av := .own k) (by simp only [AV.one, ho]) h1).1
    simp only [VR] at h1
    obtain ⟨g, hg, rfl⟩ := h1
    refine ⟨?_, fun u hu => by rcases List.mem_cons.1 hu with rfl | hu; exact hone; exact h4 u hu⟩
    simp only [RDs]
    refine ⟨g.1, vs', g.2, _, rfl, ?_, or_RD hd (hG.ob k _ g ho hg), h3⟩
    simp [pickG, fps, hg]
  | @nl ts' ts xs bs ks r ih =>
    intro vs hv
    simp only [VRs] at hv
    obtain ⟨v, vs', rfl, h1, h2⟩ := hv
    obtain ⟨h3, h4⟩ := ih h2
    have hone := (one_ok hG (ob := ob) (av := .nl) rfl h1).1
    simp only [VR] at h1
    subst h1
    refine ⟨?_, fun u hu => by rcases List.mem_cons.1 hu with rfl | hu; exact hone; exact h4 u hu⟩
    simp only [RDs]
    refine ⟨_, vs', [], _, rfl, rfl, ?_, h3⟩
    simp only [RD]
    exact ⟨0, [], [], ⟨by simp, .inl ⟨rfl, rfl⟩⟩, rfl, fun j x f h => by simp at h, rfl⟩
theorem pick_nodup' (hG : GOK X ob G w) {ks : List Nat} (hn : ks.Nodup) (hl : ∀ k ∈ ks, k < ob.length) : (fps (pickG G ks)).Nodup := pick_nodup hG.nodup hn (fun k hk => by rw [hG.len]; exact hl k hk)
theorem isd_lt {ts : Tys} {x : ts.den} {bs : List AV} {ks : List Nat} (h : Isd ob ts x bs ks) : ∀ k ∈ ks, k < ob.length := by
  induction h with
  | n => simp
  | c _ _ ih => exact ih
  | o ho _ _ ih => intro k hk; rcases List.mem_cons.1 hk with rfl | hk; exact (List.getElem?_eq_some_iff.1 ho).1; exact ih k hk
  | nl _ ih => exact ih
/-- A value's cells. -/
inductive Cl (ob : List Ob) : AV → List AV → Prop
  | g {bs : List AV} : Cl ob (.agg bs) bs
  | o {av : AV} (h : av.one ob = true) : Cl ob av [av]
theorem cl_ok (hG : GOK X ob G w) {ok : Nat → Prop} {av : AV} {bs : List AV} {v : Value} (h : Cl ob av bs) (hv : VR w ok G av v) : VRs w ok G bs v.cells.toList := by
  cases h with
  | g => simp only [VR] at hv; obtain ⟨vs, rfl, h⟩ := hv; exact h
  | o h => rw [(one_ok hG h hv).2]; exact ⟨v, [], rfl, hv, rfl⟩
/-- []T{x}, x with rows of the call's own. -/
theorem sbs1d {t e : TypeId} {ts : Tys} {by_ : Nat} {x : Operand} {av : AV} {bs : List AV} {xd : ts.den} {ks : List Nat} (hM : MI P t e ts by_) (h0 : 0 < ts.sz) (h24 : ts.sz ≤ 16777216) (hx : rd tm x = some av) (hc : Cl ob av bs) (hI : Isd ob ts xd bs ks) (hn : ks.Nodup) :
    Sto P X tm ob ks (kill ks 0 ob ++ [.arr true e ts [xd]]) ⟨some d, .buildSlice t 1 #[(0, x)], ty, pos, after, gd⟩ (.own ob.length) := fun a w G hs0 hG hv => by
  obtain ⟨i, z, hi, hz, hzc, hsize, hby⟩ := hM.info
  obtain ⟨hR, hone⟩ := isd_ok hG hI (cl_ok hG hc (hv x _ hx))
  have hlt := isd_lt hI
  have hRS : RSs w (fun _ => True) ts xd (a.eval x).cells.toList := RSs_of_RDs ts xd _ _ (fun _ _ => trivial) hR
  have hl := RSs_len ts xd _ hRS
  have hnew : (w.alloc (.cells (a.eval x).cells e)).heap[w.heap.size]? = some (.cells (a.eval x).cells e (0, 0)) := by
    show (w.heap.push _)[w.heap.size]? = _
    simp
  have hin : ∀ b ∈ fps (pickG G ks), b < w.heap.size := fun b hb => (hG.lt b (pick_sub b hb)).1
  have hst := st_abs (w' := w.alloc (.cells (a.eval x).cells e)) hG hs0 ks (g := (.slice (some ⟨w.heap.size, 0, none⟩) 1 1, w.heap.size :: fps (pickG G ks))) (o := .arr true e ts [xd]) (Kp.alloc _ w _)
    (List.nodup_cons.2 ⟨fun h => by have := hin _ h; omega, pick_nodup' hG hn hlt⟩)
    (fun b hb => by
      rcases List.mem_cons.1 hb with rfl | hb
      · exact ⟨by simp, .inr (Nat.le_refl _)⟩
      · exact ⟨by have := hin b hb; simp; omega, .inl hb⟩) (by
    simp only [OR]
    refine ⟨(a.eval x).cells.toList, [fps (pickG G ks)], ⟨by rw [hl]; simp, .inr ⟨_, 1, _, rfl, Nat.zero_le _, hnew, by simp, by decide, by rw [← hl]; simp, by rw [List.take_of_length_le]; rw [hl]; simp⟩⟩, rfl, fun j y f hj hf => ?_, by simp [Value.ownBlock]⟩
    cases j with
    | zero =>
      simp only [List.getElem?_cons_zero, Option.some.injEq] at hj hf
      subst hj hf
      have h7 := chunk_all (b := []) hl
      rw [List.append_nil] at h7
      rw [h7]
      exact RDs_move ts _ _ _ (fun b hb => (Kp.alloc [] w _).block b (hin b hb) (by simp)) hR
    | succ j => simp at hj)
  refine ⟨.slice (some ⟨w.heap.size, 0, none⟩) 1 1, _, _, ?_, hst, ?_⟩
  · have hf := fill_one (cells := (Array.range (1 * i.size)).map (z.cells[· % z.cells.size]!)) (v := a.eval x) (size := i.size) (by rw [← Array.length_toList, hl, hsize]) (by simp)
    have h1 : ¬ 1 * i.size > 2 ^ 24 := by rw [hsize]; omega
    have h2 : ¬ 1 * i.size = 0 := by rw [hsize]; omega
    simp only [execOp, Instr.buildSlice, Sem.run_bind, run_underlying hM.u, Result.andThen_ok, sizeOf, typeInfo, run_program, hi, Sem.run_pure, if_neg h1, if_neg h2, zeroValue, hz, List.map_toArray, List.map_cons, List.map_nil, hf]
    rfl
  · simp only [VR]
    exact ⟨_, by rw [← hG.len]; exact kg_last, rfl⟩

/-- append of a row of rows, both the call's own. -/
theorem sappd {t e e2 : TypeId} {ts : Tys} {by_ : Nat} {x y : Operand} {k j : Nat} {xs ys : List ts.den} {d2 : Bool} (hx : rd tm x = some (.own k)) (ho : ob[k]? = some (.arr true e ts xs)) (hy : rd tm y = some (.own j)) (ho2 : ob[j]? = some (.arr d2 e2 ts ys)) (hd2 : (d2 || ts.flat) = true) (hkj : (k == j) = false) (hM : MI P t e ts by_) (hsz : 0 < ts.sz)
    (h63 : xs.length + ys.length ≤ 9223372036854775807) (hbytes : (xs.length + ys.length) * by_ ≤ 140737488355328) :
    Sto P X tm ob [k, j] (kill [k, j] 0 ob ++ [.arr true e ts (xs ++ ys)]) ⟨some d, .call { callee := .builtin .append, args := #[x, y], argTypes := #[t, t] }, ty, pos, after, gd⟩ (.own ob.length) := fun a w G hs0 hG hv => by
  have hkj' : k ≠ j := by simpa using hkj
  have h1 := hv x _ hx
  simp only [VR] at h1
  obtain ⟨⟨v, f⟩, hg, h1⟩ := h1
  have h2 := hv y _ hy
  simp only [VR] at h2
  obtain ⟨⟨v2, f2⟩, hg2, h2⟩ := h2
  have hor := hG.ob k _ _ ho hg
  simp only [OR] at hor
  obtain ⟨inner, fs, hown, hfl, hel, hf⟩ := hor
  have hrd := or_RD hd2 (hG.ob j _ _ ho2 hg2)
  simp only [RD] at hrd
  obtain ⟨e3, inner2, fs2, hown2, hfl2, hel2, hf2⟩ := hrd
  obtain ⟨A, c, he, hc, hm⟩ := own_form hown2
  have hone : ∀ u ∈ inner2, u.oneCell' = true := fun u hu => by
    obtain ⟨q, hq⟩ := List.getElem?_of_mem hu
    have hql : q < inner2.length := (List.getElem?_eq_some_iff.1 hq).1
    have hil := hown2.1
    have hdiv : q / ts.sz < ys.length := (Nat.div_lt_iff_lt_mul hsz).2 (by omega)
    have hmod := Nat.mod_lt q hsz
    have := hel2 (q / ts.sz) ys[q / ts.sz] fs2[q / ts.sz] (List.getElem?_eq_getElem hdiv) (List.getElem?_eq_getElem (by omega))
    refine RSs_one ts _ _ (RSs_of_RDs (ok := fun _ => True) ts _ _ _ (fun _ _ => trivial) this) u (List.mem_of_getElem? (i := q % ts.sz) ?_)
    rw [chunk_get hmod, Nat.mul_comm, Nat.div_add_mod]
    exact hq
  try simp only at he
  obtain ⟨v', w', hr, hrow, hgr, hb⟩ := run_app (P := P) (ty := ty) hM hsz hown (A := A) (m := ys.length) (c := c) (news := inner2) hown2.1 (fun h0 => by
      subst h0
      rcases hown2.2 with ⟨_, h⟩ | ⟨_, _, _, h, _⟩
      · exact h
      · rw [he] at h; cases h) (fun ad h0 q u hq => by
      subst h0
      rcases hown2.2 with ⟨h, _⟩ | ⟨g, _, _, h, _⟩
      · rw [he] at h; cases h
      · have hh := h
        rw [he] at h
        simp only [Value.slice.injEq, Option.some.injEq] at h
        obtain ⟨rfl, _, _⟩ := h
        exact hown2.cells (g := g) (by rw [hh]; rfl) q u hq) hone (by simpa only [maxLen] using h63) hbytes
  have hfk : fps (pickG G [k, j]) = f ++ f2 := by simp [pickG, fps, hg, hg2]
  have hnd : (f ++ f2).Nodup := by rw [← hfk]; exact pick_nodup' hG (by simp [hkj']) (by intro q hq; simp only [List.mem_cons, List.not_mem_nil, or_false] at hq; rcases hq with rfl | rfl; exact (List.getElem?_eq_some_iff.1 ho).1; exact (List.getElem?_eq_some_iff.1 ho2).1)
  have hK : Kp (fps (pickG G [k, j])) w w' := (Kp.of_grown hgr).mono (fun b hb' _ => by rw [hfk, hf]; exact List.mem_append_left _ (List.mem_append_left _ hb'))
  have hkeep : ∀ b, b ∈ fs.flatten ∨ b ∈ fs2.flatten → w'.heap[b]? = w.heap[b]? := fun b hb' => by
    have hbf : b ∈ f ++ f2 := by
      rcases hb' with h | h
      · exact List.mem_append_left _ (by rw [hf]; exact List.mem_append_right _ h)
      · exact List.mem_append_right _ (by rw [hf2]; exact List.mem_append_right _ h)
    refine hgr.block b (hG.lt b (pick_sub (ks := [k, j]) b (by rw [hfk]; exact hbf))).1 (fun e0 => ?_)
    rw [hf, hf2] at hnd
    rw [List.append_assoc, List.nodup_append] at hnd
    refine hnd.2.2 b (by rw [← e0]; simp) b ?_ rfl
    rcases hb' with h | h
    · exact List.mem_append_left _ h
    · exact List.mem_append_right _ (List.mem_append_right _ h)
  have hlt' : ∀ b ∈ v'.ownBlock.toList, b < w'.heap.size := owns_lt hrow
  have hst := st_abs hG hs0 [k, j] (g := (v', v'.ownBlock.toList ++ (fs ++ fs2).flatten)) (o := .arr true e ts (xs ++ ys)) hK (by
    rw [List.flatten_append, List.nodup_append]
    refine ⟨by cases v'.ownBlock <;> simp, ?_, ?_⟩
    · rw [hf, hf2] at hnd
      rw [List.append_assoc, List.nodup_append] at hnd
      have h3 := hnd.2.1
      rw [List.nodup_append] at h3 ⊢
      refine ⟨h3.1, (List.nodup_append.1 h3.2.1).2.1, fun p hp q hq => h3.2.2 p hp q (List.mem_append_right _ hq)⟩
    · intro p hp q hq e0
      subst e0
      have hpo : v'.ownBlock = some p := by simpa using hp
      have hq' : p ∈ f ++ f2 := by
        rcases List.mem_append.1 hq with h | h
        · exact List.mem_append_left _ (by rw [hf]; exact List.mem_append_right _ h)
        · exact List.mem_append_right _ (by rw [hf2]; exact List.mem_append_right _ h)
      rcases hb p hpo with h | h
      · rw [hf, hf2] at hnd
        rw [List.append_assoc, List.nodup_append] at hnd
        refine hnd.2.2 p (by simp [h]) p ?_ rfl
        rcases List.mem_append.1 hq with h | h
        · exact List.mem_append_left _ h
        · exact List.mem_append_right _ (List.mem_append_right _ h)
      · have := (hG.lt p (pick_sub (ks := [k, j]) p (by rw [hfk]; exact hq'))).1
        omega) (fun b hb' => by
    rcases List.mem_append.1 hb' with h | h
    · refine ⟨hlt' b h, ?_⟩
      rcases hb b (by simpa using h) with h | h
      · exact .inl (by rw [hfk, hf]; exact List.mem_append_left _ (List.mem_append_left _ (by simp [h])))
      · exact .inr h
    · have hbf : b ∈ f ++ f2 := by
        rw [List.flatten_append] at h
        rcases List.mem_append.1 h with h | h
        · exact List.mem_append_left _ (by rw [hf]; exact List.mem_append_right _ h)
        · exact List.mem_append_right _ (by rw [hf2]; exact List.mem_append_right _ h)
      exact ⟨Nat.lt_of_lt_of_le (hG.lt b (pick_sub (ks := [k, j]) b (by rw [hfk]; exact hbf))).1 hK.size, .inl (by rw [hfk]; exact hbf)⟩) (by
    simp only [OR]
    refine ⟨inner ++ inner2, fs ++ fs2, by rw [List.length_append]; exact hrow, by simp [hfl, hfl2], fun p x' g' hp hg' => ?_, rfl⟩
    by_cases hpx : p < xs.length
    · rw [List.getElem?_append_left hpx] at hp
      rw [List.getElem?_append_left (by omega)] at hg'
      rw [chunk_left (by rw [hown.1]; exact Nat.mul_le_mul_right _ hpx)]
      exact RDs_move ts x' _ g' (fun b hb' => hkeep b (.inl (List.mem_flatten.2 ⟨g', List.mem_of_getElem? hg', hb'⟩))) (hel p x' g' hp hg')
    · rw [List.getElem?_append_right (by omega)] at hp
      rw [List.getElem?_append_right (by omega), hfl] at hg'
      have := chunk_right (sz := ts.sz) (j := p - xs.length) (b := inner2) hown.1
      rw [show xs.length + (p - xs.length) = p by omega] at this
      rw [this]
      exact RDs_move ts x' _ g' (fun b hb' => hkeep b (.inr (List.mem_flatten.2 ⟨g', List.mem_of_getElem? hg', hb'⟩))) (hel2 _ x' g' hp hg'))
  refine ⟨v', w', _, ?_, hst, ?_⟩
  · simp only at h1 h2
    simp only [execOp, resolve, invoke, builtin, Sem.run_bind, Sem.run_pure, Result.andThen_ok, List.map_toArray, List.map_cons, List.map_nil, h1, h2, he, hr]
  · simp only [VR]
    exact ⟨_, by rw [← hG.len]; exact kg_last, rfl⟩

/-- min, max -/
theorem imin {x y : Operand} {at1 at2 : TypeId} {k : IntKind} {m n : Int} (hx : rd tm x = some (.c (.i k) m)) (hy : rd tm y = some (.c (.i k) n)) :
    Val P X tm ob ⟨dst, .call { callee := .builtin .min, args := #[x, y], argTypes := #[at1, at2] }, ty, pos, after, gd⟩ (.c (.i k) (if n < m then n else m)) := fun a w G hG hv => by
  obtain ⟨h1, h2⟩ := vr_i (hv x _ hx)
  obtain ⟨h3, h4⟩ := vr_i (hv y _ hy)
  exact ⟨.int k (if n < m then n else m), fun w' _ => by simp [execOp, resolve, invoke, builtin, Builtin.min_, Builtin.min2, h1, h3], vri (by split <;> assumption)⟩
theorem imax {x y : Operand} {at1 at2 : TypeId} {k : IntKind} {m n : Int} (hx : rd tm x = some (.c (.i k) m)) (hy : rd tm y = some (.c (.i k) n)) :
    Val P X tm ob ⟨dst, .call { callee := .builtin .max, args := #[x, y], argTypes := #[at1, at2] }, ty, pos, after, gd⟩ (.c (.i k) (if m < n then n else m)) := fun a w G hG hv => by
  obtain ⟨h1, h2⟩ := vr_i (hv x _ hx)
  obtain ⟨h3, h4⟩ := vr_i (hv y _ hy)
  exact ⟨.int k (if m < n then n else m), fun w' _ => by simp [execOp, resolve, invoke, builtin, Builtin.max_, Builtin.max2, h1, h3], vri (by split <;> assumption)⟩
end
end Go.Proofs.YtifpekpmnlcmoaaE
