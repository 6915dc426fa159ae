import Derived.Test.YtifpekpmnlcmoaaProg
import Derived.Test.YtifpekpmnlcmoaaE19
import Derived.Test.YtifpekpmnlcmoaaA5
set_option linter.unusedVariables false
set_option linter.unusedSimpArgs false
set_option maxRecDepth 100000
namespace Go.Proofs.YtifpekpmnlcmoaaE
open Go Go.RowKit Go.Shelf Go.Proofs

def com : StrS → StrS → Nat
  | x :: a, y :: b => if x.1 = y.1 then com a b + 1 else 0
  | _, _ => 0
def closes : Nat → Nat → List UInt8
  | 0, _ => []
  | h + 1, lo => if lo ≤ h then (blanks h ++ [125, 10]) ++ closes h lo else []
def opens (p : StrS) : Nat → Nat → List UInt8
  | _, 0 => []
  | k, m + 1 => (blanks k ++ (ix KS.z p (k : Int)).1 ++ [32, 123, 10]) ++ opens p (k + 1) m
def leafT (x : KRLSzSz.den) : List UInt8 := blanks (x.1.length - 1) ++ (ix KS.z x.1 ((x.1.length : Int) - 1)).1 ++ [32] ++ x.2.1 ++ [59, 10]
def txt : StrS → Leafs → List UInt8
  | op, [] => closes op.length 0
  | op, x :: r => closes op.length (com op (x.1.take (x.1.length - 1))) ++ opens x.1 (com op (x.1.take (x.1.length - 1))) (x.1.length - 1 - com op (x.1.take (x.1.length - 1))) ++ leafT x ++ txt (x.1.take (x.1.length - 1)) r
theorem blanks_len (k : Nat) : (blanks k).length = 2 * k := by simp [blanks]
theorem com_le1 : ∀ (a b : StrS), com a b ≤ a.length
  | [], b => by simp [com]
  | x :: a, [] => by simp [com]
  | x :: a, y :: b => by simp only [com]; split <;> simp; exact com_le1 a b
theorem com_le2 : ∀ (a b : StrS), com a b ≤ b.length
  | [], b => by simp [com]
  | x :: a, [] => by simp [com]
  | x :: a, y :: b => by simp only [com]; split <;> simp; exact com_le2 a b
theorem path_len {p : StrS} (h : path p = true) : 1 ≤ p.length ∧ p.length ≤ 5 := by
  simp only [path, Bool.and_eq_true, decide_eq_true_eq] at h; exact h.2
theorem word_len {s : List UInt8} (h : word s = true) : 1 ≤ s.length ∧ s.length ≤ 8 := by
  simp only [word, Bool.and_eq_true, decide_eq_true_eq] at h; exact h.2
theorem path_w {p : StrS} (h : path p = true) (i : Int) : (ix KS.z p i).1.length ≤ 8 := by
  simp only [path, Bool.and_eq_true, List.all_eq_true] at h
  unfold ix
  rw [List.getD_eq_getElem?_getD]
  cases hq : p[i.toNat]? with
  | none => simp
  | some x => simp only [Option.getD_some]; exact (word_len (h.1 x (List.mem_of_getElem? hq))).2
theorem good_at {l : Leafs} (h : good l = true) {i : Nat} (hi : i < l.length) : path (ix KRLSzSz.z l (i : Int)).1 = true ∧ word (ix KRLSzSz.z l (i : Int)).2.1 = true := by
  simp only [good, Bool.and_eq_true, List.all_eq_true] at h
  have := h.1 i (List.mem_range.2 hi)
  simp only [stOK, Bool.and_eq_true] at this
  exact this.1
theorem good_len {l : Leafs} (h : good l = true) : l.length ≤ 30 := by
  simp only [good, Bool.and_eq_true, decide_eq_true_eq] at h; exact h.2
theorem com_step {a b : StrS} {k : Nat} (ha : k < a.length) (hb : k < b.length) : com (a.drop k) (b.drop k) = if (ix KS.z a (k : Int)).1 = (ix KS.z b (k : Int)).1 then com (a.drop (k + 1)) (b.drop (k + 1)) + 1 else 0 := by
  rw [drop_ix (xs := a) (i := k) (z := KS.z) ha, drop_ix (xs := b) (i := k) (z := KS.z) hb, com]
theorem ix_take {α : Type} {z : α} {xs : List α} {n k : Nat} (h : k < n) : ix z (xs.take n) (k : Int) = ix z xs (k : Int) := by
  simp only [ix, List.getD_eq_getElem?_getD, Int.toNat_natCast, List.getElem?_take_of_lt h]
theorem tqi {k : IntKind} {x y : Int} {f : Nat → Nat} (h : x = y) : AV.c (.i k) x = AV.ren f (AV.c (.i k) y) := by subst h; rfl
theorem closes_step {j k : Nat} (h : k + 1 ≤ j) : closes j k = (blanks ((j : Int) - 1).toNat ++ [125, 10]) ++ closes (j - 1) k := by
  obtain ⟨m, rfl⟩ : ∃ m, j = m + 1 := ⟨j - 1, by omega⟩
  rw [closes, if_pos (by omega), show (((m + 1 : Nat) : Int) - 1).toNat = m by omega]; rfl
theorem closes_end {j k : Nat} (h : j ≤ k) : closes j k = [] := by
  cases j with
  | zero => rfl
  | succ m => rw [closes, if_neg (by omega)]
theorem opens_step {p : StrS} {q m : Nat} (h : 0 < m) : opens p q m = (blanks q ++ (ix KS.z p (q : Int)).1 ++ [32, 123, 10]) ++ opens p (q + 1) (m - 1) := by
  obtain ⟨m', rfl⟩ : ∃ m', m = m' + 1 := ⟨m - 1, by omega⟩
  rfl
theorem com_end {a b : StrS} {k : Nat} (h : a.length ≤ k ∨ b.length ≤ k) : com (a.drop k) (b.drop k) = 0 := by
  rcases h with h | h
  · rw [drop_nil h]; simp [com]
  · rw [drop_nil h]; cases a.drop k <;> simp [com]

theorem c_spec_l15Text : Fe Go.Proofs.Try.prog 58 (ι := Leafs) (fun l => [.c (.l KRLSzSz) l]) (fun _ => []) (fun l => good l = true) (fun l => (.c .s (txt [] l), [])) := by
  refine fnE (n := 108) Go.Proofs.Try.func58 rfl rfl (ent Go.Proofs.Try.func58 (by kernel_rfl) rfl) ?_
  rintro l hx
  refine ⟨Le rfl, fun w0 S0 H Z hH => ?_⟩
  try simp only [] at hx
  have gl := good_len hx
  refine cseq ?_
  refine creg ?_
  refine o (.inl rfl) (L rfl) (asn rfl) rfl ?_
  refine onil ?_
  refine xthn ?_
  refine cseq ?_
  refine creg ?_
  refine o (.inl rfl) (L rfl) (asn rfl) rfl ?_
  refine onil ?_
  refine xthn ?_
  refine cseq ?_
  refine creg ?_
  refine o (.inl rfl) (L rfl) (asn rfl) rfl ?_
  refine onil ?_
  refine xthn ?_
  refine cseq ?_
  refine cseq ?_
  refine creg ?_
  refine o (.inl rfl) (L rfl) (mv rfl) rfl ?_
  first | refine ofact (t := 12) rfl fun hl1 => ?_ | refine ofacts (t := 12) rfl fun hl1 => ?_ | skip
  first | refine o (.inl rfl) (L rfl) (lenl rfl li26) rfl ?_ | refine o (.inl rfl) (L rfl) (leno rfl rfl li26) rfl ?_ | refine o (.inl rfl) (L rfl) (lennl rfl li26) rfl ?_
  refine o (.inl rfl) (L rfl) (mv rfl) rfl ?_
  refine onil ?_
  refine xthn ?_
  refine cblock ?_
  refine cwk (wnl KS (t := 4) rfl) ?_
  refine cloop (ι := Nat × List UInt8 × StrS) (fun | (i, s, op) => [(0, .c (.l KRLSzSz) l), (12, .c (.l KRLSzSz) l), (13, .c (.i .i64) (l.length : Int)), (14, .c (.i .i64) (i : Int)), (3, .c .s s), (4, .c (.l KS) op)]) (fun | (i, s, op) => []) (fun | (i, s, op) => i ≤ l.length ∧ s.length ≤ 400 * i ∧ op.length ≤ 4 ∧ txt [] l = s ++ txt op (l.drop i)) (fun | (i, s, op) => l.length - i) (0, [], []) (by simp) (weak [] (by decide) (h0 hH) (by repeat (first | exact .n | refine .c rfl (by first | rfl) ?_)) (by repeat (first | exact .n | refine .c rfl (by first | rfl | exact tq (by rw [tn]) | (simp; done)) ?_))) ?_
  rintro ⟨i, s, op⟩ i0
  try simp only [] at i0
  refine cseq ?_
  refine creg ?_
  refine o (.inl rfl) (L rfl) (ibin rfl rfl rfl) rfl ?_
  refine onil ?_
  refine xthn ?_
  refine cseq ?_
  refine ccond rfl (fun c1 => ?_) (fun c1 => ?_)
  · try simp only [q1, q2, q3, q4, q5, q6, q7, q8, q9, q10, q11, q12, q13, q14, q15, q16, q17] at c1
    have gp := good_at hx (i := i) (by omega)
    have gl1 := path_len gp.1
    have gv := word_len gp.2
    refine cskip ?_
    refine xthn ?_
    refine cseq ?_
    refine cblock ?_
    refine cseq ?_
    refine creg ?_
    first | refine o (.inl rfl) (L rfl) (ixl rfl rfl li26 rfl (by first | omega | (simp [blanks_len]; omega)) (by first | omega | (simp [blanks_len]; omega))) rfl ?_ | refine o (.inl rfl) (L rfl) (ixo rfl rfl rfl li26 rfl (by first | omega | (simp [blanks_len]; omega)) (by first | omega | (simp [blanks_len]; omega))) rfl ?_
    first | refine o (.inl rfl) (L rfl) (ldbn rfl rfl ti94 (Le rfl)) rfl ?_ | refine o (.inl rfl) (L rfl) (ldrn rfl ti94 (Le rfl)) rfl ?_ | refine o (.inl rfl) (L rfl) (lden rfl rfl (by first | omega | (simp [blanks_len]; omega)) ti94) rfl ?_
    refine oalloc (.inl rfl) (L rfl) zi94 ?_
    first | refine ostn (.inl rfl) rfl rfl rfl rfl (Le rfl) ti94 ?_ | refine ste (.inl rfl) rfl rfl (by first | omega | (simp [blanks_len]; omega)) rfl (.g rfl) ti94 ?_
    refine onil ?_
    refine xthn ?_
    refine cseq ?_
    refine creg ?_
    first | refine o (.inl rfl) (L rfl) (fab rfl fi94_0) rfl ?_ | refine o (.inl rfl) (L rfl) (fae rfl fi94_0) rfl ?_ | refine o (.inl rfl) (L rfl) (far rfl fi94_0 (Le rfl)) rfl ?_
    first | refine o (.inl rfl) (L rfl) (ldb rfl rfl rfl ti40) rfl ?_ | refine o (.inl rfl) (L rfl) (ldr rfl ti40) rfl ?_ | refine o (.inl rfl) (L rfl) (lde rfl rfl (by first | omega | (simp [blanks_len]; omega)) (L rfl) rfl ti40) rfl ?_
    first | refine ofact (t := 19) rfl fun hl2 => ?_ | refine ofacts (t := 19) rfl fun hl2 => ?_ | skip
    first | refine o (.inl rfl) (L rfl) (lenl rfl li40) rfl ?_ | refine o (.inl rfl) (L rfl) (leno rfl rfl li40) rfl ?_ | refine o (.inl rfl) (L rfl) (lennl rfl li40) rfl ?_
    refine o (.inl rfl) (L rfl) (isub rfl rfl (by first | omega | (simp [blanks_len]; omega)) (by first | omega | (simp [blanks_len]; omega))) rfl ?_
    refine o (.inl rfl) (L rfl) (asn rfl) rfl ?_
    refine onil ?_
    refine xthn ?_
    refine cseq ?_
    refine creg ?_
    refine o (.inl rfl) (L rfl) (asn rfl) rfl ?_
    refine onil ?_
    refine xthn ?_
    refine cmid (ι := Nat) (fun | k => [(0, .c (.l KRLSzSz) l), (12, .c (.l KRLSzSz) l), (13, .c (.i .i64) (l.length : Int)), (14, .c (.i .i64) (i : Int)), (4, .c (.l KS) op), (6, .bp 0 0), (7, .c (.i .i64) (((ix KRLSzSz.z l (i : Int)).1.length : Int) - 1)), (3, .c .s s), (8, .c (.i .i64) (k : Int))]) (fun | k => [.box 94 (avs 2 KRLSzSz (ix KRLSzSz.z l (i : Int)))]) (fun | k => k = com op ((ix KRLSzSz.z l (i : Int)).1.take ((ix KRLSzSz.z l (i : Int)).1.length - 1))) ?_ ?_
    ·
      refine cblock ?_
      refine cloop (ι := Nat) (fun | k => [(0, .c (.l KRLSzSz) l), (12, .c (.l KRLSzSz) l), (13, .c (.i .i64) (l.length : Int)), (14, .c (.i .i64) (i : Int)), (4, .c (.l KS) op), (6, .bp 0 0), (7, .c (.i .i64) (((ix KRLSzSz.z l (i : Int)).1.length : Int) - 1)), (3, .c .s s), (8, .c (.i .i64) (k : Int))]) (fun | k => [.box 94 (avs 2 KRLSzSz (ix KRLSzSz.z l (i : Int)))]) (fun | k => k ≤ op.length ∧ (k : Int) ≤ (((ix KRLSzSz.z l (i : Int)).1.length : Int) - 1) ∧ com op ((ix KRLSzSz.z l (i : Int)).1.take ((ix KRLSzSz.z l (i : Int)).1.length - 1)) = k + com (op.drop k) (((ix KRLSzSz.z l (i : Int)).1.take ((ix KRLSzSz.z l (i : Int)).1.length - 1)).drop k)) (fun | k => op.length - k) 0 (by simp; omega) (weak [0] (by decide) (h0 hH) (by repeat (first | exact .n | refine .c rfl (by first | rfl) ?_)) (by repeat (first | exact .n | refine .c rfl (by first | rfl | (simp; done)) ?_))) ?_
      rintro k i1
      try simp only [] at i1
      refine cseq ?_
      refine cseq ?_
      refine cregd mixed (by kernel_rfl) ?_
      refine qo (.inl rfl) (L rfl) (mv rfl) rfl ?_
      refine qo (.inl rfl) (L rfl) (mv rfl) rfl ?_
      first | refine qfact (t := 23) rfl fun hl3 => ?_ | refine qfacts (t := 23) rfl fun hl3 => ?_ | skip
      first | refine qo (.inl rfl) (L rfl) (lenl rfl li40) rfl ?_ | refine qo (.inl rfl) (L rfl) (leno rfl rfl li40) rfl ?_ | refine qo (.inl rfl) (L rfl) (lennl rfl li40) rfl ?_
      refine qo (.inl rfl) (L rfl) (ibin rfl rfl rfl) rfl ?_
      refine qo (.inl rfl) (L rfl) (mv rfl) rfl ?_
      refine qcase (t := 26) rfl (fun c2 => ?_) (fun c2 => ?_)
      · try simp only [q1, q2, q3, q4, q5, q6, q7, q8, q9, q10, q11, q12, q13, q14, q15, q16, q17] at c2
        refine qo (.inr ⟨_, _, _, rfl, rfl, rfl⟩) (L rfl) (mv rfl) rfl ?_
        refine qo (.inr ⟨_, _, _, rfl, rfl, rfl⟩) (L rfl) (mv rfl) rfl ?_
        refine qo (.inr ⟨_, _, _, rfl, rfl, rfl⟩) (L rfl) (ibin rfl rfl rfl) rfl ?_
        refine qo (.inl rfl) (L rfl) (pickT rfl rfl) rfl ?_
        refine qo (.inl rfl) (L rfl) (mv rfl) rfl ?_
        refine qcase (t := 31) rfl (fun c3 => ?_) (fun c3 => ?_)
        · try simp only [q1, q2, q3, q4, q5, q6, q7, q8, q9, q10, q11, q12, q13, q14, q15, q16, q17] at c3
          refine qo (.inr ⟨_, _, _, rfl, rfl, rfl⟩) (L rfl) (mv rfl) rfl ?_
          refine qo (.inr ⟨_, _, _, rfl, rfl, rfl⟩) (L rfl) (mv rfl) rfl ?_
          first | refine qo (.inr ⟨_, _, _, rfl, rfl, rfl⟩) (L rfl) (ixl rfl rfl li40 rfl (by first | omega | (simp [blanks_len]; omega)) (by first | omega | (simp [blanks_len]; omega))) rfl ?_ | refine qo (.inr ⟨_, _, _, rfl, rfl, rfl⟩) (L rfl) (ixo rfl rfl rfl li40 rfl (by first | omega | (simp [blanks_len]; omega)) (by first | omega | (simp [blanks_len]; omega))) rfl ?_
          first | refine qo (.inr ⟨_, _, _, rfl, rfl, rfl⟩) (L rfl) (ldb rfl rfl rfl ti9) rfl ?_ | refine qo (.inr ⟨_, _, _, rfl, rfl, rfl⟩) (L rfl) (ldr rfl ti9) rfl ?_ | refine qo (.inr ⟨_, _, _, rfl, rfl, rfl⟩) (L rfl) (lde rfl rfl (by first | omega | (simp [blanks_len]; omega)) (L rfl) rfl ti9) rfl ?_
          first | refine qo (.inr ⟨_, _, _, rfl, rfl, rfl⟩) (L rfl) (fab rfl fi94_0) rfl ?_ | refine qo (.inr ⟨_, _, _, rfl, rfl, rfl⟩) (L rfl) (fae rfl fi94_0) rfl ?_ | refine qo (.inr ⟨_, _, _, rfl, rfl, rfl⟩) (L rfl) (far rfl fi94_0 (Le rfl)) rfl ?_
          first | refine qo (.inr ⟨_, _, _, rfl, rfl, rfl⟩) (L rfl) (ldb rfl rfl rfl ti40) rfl ?_ | refine qo (.inr ⟨_, _, _, rfl, rfl, rfl⟩) (L rfl) (ldr rfl ti40) rfl ?_ | refine qo (.inr ⟨_, _, _, rfl, rfl, rfl⟩) (L rfl) (lde rfl rfl (by first | omega | (simp [blanks_len]; omega)) (L rfl) rfl ti40) rfl ?_
          refine qo (.inr ⟨_, _, _, rfl, rfl, rfl⟩) (L rfl) (mv rfl) rfl ?_
          first | refine qo (.inr ⟨_, _, _, rfl, rfl, rfl⟩) (L rfl) (ixl rfl rfl li40 rfl (by first | omega | (simp [blanks_len]; omega)) (by first | omega | (simp [blanks_len]; omega))) rfl ?_ | refine qo (.inr ⟨_, _, _, rfl, rfl, rfl⟩) (L rfl) (ixo rfl rfl rfl li40 rfl (by first | omega | (simp [blanks_len]; omega)) (by first | omega | (simp [blanks_len]; omega))) rfl ?_
          first | refine qo (.inr ⟨_, _, _, rfl, rfl, rfl⟩) (L rfl) (ldb rfl rfl rfl ti9) rfl ?_ | refine qo (.inr ⟨_, _, _, rfl, rfl, rfl⟩) (L rfl) (ldr rfl ti9) rfl ?_ | refine qo (.inr ⟨_, _, _, rfl, rfl, rfl⟩) (L rfl) (lde rfl rfl (by first | omega | (simp [blanks_len]; omega)) (L rfl) rfl ti9) rfl ?_
          refine qo (.inr ⟨_, _, _, rfl, rfl, rfl⟩) (L rfl) (sbin rfl rfl rfl) rfl ?_
          refine qo (.inl rfl) (L rfl) (pickT rfl rfl) rfl ?_
          refine qnil ?_
          refine xthn ?_
          refine ccond rfl (fun c4 => ?_) (fun c4 => ?_)
          · try simp only [q1, q2, q3, q4, q5, q6, q7, q8, q9, q10, q11, q12, q13, q14, q15, q16, q17] at c4
            refine cskip ?_
            refine xthn ?_
            refine cblock ?_
            refine creg ?_
            refine o (.inl rfl) (L rfl) (mv rfl) rfl ?_
            refine o (.inl rfl) (L rfl) (iadd rfl rfl (by first | omega | (simp [blanks_len]; omega)) (by first | omega | (simp [blanks_len]; omega))) rfl ?_
            refine o (.inl rfl) (L rfl) (asn rfl) rfl ?_
            refine onil ?_
            refine xbn ?_
            refine xlq (k + 1) (by refine ⟨by omega, by omega, ?_⟩; rw [i1.2.2, com_step (by omega) (by simp; omega), if_pos (by rw [ix_take (by omega)]; exact c4)]; omega) (by simp only []; omega) (weak [0] (by decide) (h0 hH) (by repeat (first | exact .n | refine .c rfl (by first | rfl) ?_)) (by repeat (first | exact .n | refine .c rfl (by first | rfl | (simp; done)) ?_)))
          · try simp only [q1, q2, q3, q4, q5, q6, q7, q8, q9, q10, q11, q12, q13, q14, q15, q16, q17] at c4
            refine cexit ?_
            refine xthe ?_
            refine xle ?_
            refine xbh ?_
            exact xmq k (by rw [i1.2.2, com_step (by omega) (by simp; omega), if_neg (by rw [ix_take (by omega)]; exact c4)]; rfl) (weak [0] (by decide) (h0 hH) (by repeat (first | exact .n | refine .c rfl (by first | rfl) ?_)) (by repeat (first | exact .n | refine .c rfl (by first | rfl | (simp; done)) ?_)))
        · try simp only [q1, q2, q3, q4, q5, q6, q7, q8, q9, q10, q11, q12, q13, q14, q15, q16, q17] at c3
          refine qskip rfl rfl rfl rfl rfl (L rfl) ?_
          refine qskip rfl rfl rfl rfl rfl (L rfl) ?_
          refine qskip rfl rfl rfl rfl rfl (L rfl) ?_
          refine qskip rfl rfl rfl rfl rfl (L rfl) ?_
          refine qskip rfl rfl rfl rfl rfl (L rfl) ?_
          refine qskip rfl rfl rfl rfl rfl (L rfl) ?_
          refine qskip rfl rfl rfl rfl rfl (L rfl) ?_
          refine qskip rfl rfl rfl rfl rfl (L rfl) ?_
          refine qskip rfl rfl rfl rfl rfl (L rfl) ?_
          refine qskip rfl rfl rfl rfl rfl (L rfl) ?_
          refine qo (.inl rfl) (L rfl) (pickF rfl rfl) rfl ?_
          refine qnil ?_
          refine xthn ?_
          refine ccF rfl ?_
          refine cexit ?_
          refine xthe ?_
          refine xle ?_
          refine xbh ?_
          exact xmq k (by rw [i1.2.2, com_end (.inr (by simp; omega))]; rfl) (weak [0] (by decide) (h0 hH) (by repeat (first | exact .n | refine .c rfl (by first | rfl) ?_)) (by repeat (first | exact .n | refine .c rfl (by first | rfl | (simp; done)) ?_)))
      · try simp only [q1, q2, q3, q4, q5, q6, q7, q8, q9, q10, q11, q12, q13, q14, q15, q16, q17] at c2
        refine qskip rfl rfl rfl rfl rfl (L rfl) ?_
        refine qskip rfl rfl rfl rfl rfl (L rfl) ?_
        refine qskip rfl rfl rfl rfl rfl (L rfl) ?_
        refine qo (.inl rfl) (L rfl) (pickF rfl rfl) rfl ?_
        refine qo (.inl rfl) (L rfl) (mv rfl) rfl ?_
        refine qskip rfl rfl rfl rfl rfl (L rfl) ?_
        refine qskip rfl rfl rfl rfl rfl (L rfl) ?_
        refine qskip rfl rfl rfl rfl rfl (L rfl) ?_
        refine qskip rfl rfl rfl rfl rfl (L rfl) ?_
        refine qskip rfl rfl rfl rfl rfl (L rfl) ?_
        refine qskip rfl rfl rfl rfl rfl (L rfl) ?_
        refine qskip rfl rfl rfl rfl rfl (L rfl) ?_
        refine qskip rfl rfl rfl rfl rfl (L rfl) ?_
        refine qskip rfl rfl rfl rfl rfl (L rfl) ?_
        refine qskip rfl rfl rfl rfl rfl (L rfl) ?_
        refine qo (.inl rfl) (L rfl) (pickF rfl rfl) rfl ?_
        refine qnil ?_
        refine xthn ?_
        refine ccF rfl ?_
        refine cexit ?_
        refine xthe ?_
        refine xle ?_
        refine xbh ?_
        exact xmq k (by rw [i1.2.2, com_end (.inl (by omega))]; rfl) (weak [0] (by decide) (h0 hH) (by repeat (first | exact .n | refine .c rfl (by first | rfl) ?_)) (by repeat (first | exact .n | refine .c rfl (by first | rfl | (simp; done)) ?_)))
    rintro k mb2
    try simp only [] at mb2
    have k1 := com_le1 op ((ix KRLSzSz.z l (i : Int)).1.take ((ix KRLSzSz.z l (i : Int)).1.length - 1))
    have k2 := com_le2 op ((ix KRLSzSz.z l (i : Int)).1.take ((ix KRLSzSz.z l (i : Int)).1.length - 1))
    rw [← mb2] at k1 k2
    rw [List.length_take] at k2
    refine cseq ?_
    refine cseq ?_
    refine creg ?_
    refine o (.inl rfl) (L rfl) (mv rfl) rfl ?_
    first | refine ofact (t := 45) rfl fun hl4 => ?_ | refine ofacts (t := 45) rfl fun hl4 => ?_ | skip
    first | refine o (.inl rfl) (L rfl) (lenl rfl li40) rfl ?_ | refine o (.inl rfl) (L rfl) (leno rfl rfl li40) rfl ?_ | refine o (.inl rfl) (L rfl) (lennl rfl li40) rfl ?_
    refine o (.inl rfl) (L rfl) (isub rfl rfl (by first | omega | (simp [blanks_len]; omega)) (by first | omega | (simp [blanks_len]; omega))) rfl ?_
    refine o (.inl rfl) (L rfl) (asn rfl) rfl ?_
    refine onil ?_
    refine xthn ?_
    refine cblock ?_
    refine cloop (ι := Nat × List UInt8) (fun | (j, s1) => [(0, .c (.l KRLSzSz) l), (12, .c (.l KRLSzSz) l), (13, .c (.i .i64) (l.length : Int)), (14, .c (.i .i64) (i : Int)), (4, .c (.l KS) op), (6, .bp 0 0), (7, .c (.i .i64) (((ix KRLSzSz.z l (i : Int)).1.length : Int) - 1)), (3, .c .s s1), (8, .c (.i .i64) (k : Int)), (9, .c (.i .i64) ((j : Int) - 1))]) (fun | (j, s1) => [.box 94 (avs 2 KRLSzSz (ix KRLSzSz.z l (i : Int)))]) (fun | (j, s1) => k ≤ j ∧ j ≤ op.length ∧ s1.length ≤ 400 * i + 10 * (op.length - j) ∧ s ++ closes op.length k = s1 ++ closes j k) (fun | (j, s1) => j) (op.length, s) (by simp; omega) (weak [0] (by decide) (h0 hH) (by repeat (first | exact .n | refine .c rfl (by first | rfl) ?_)) (by repeat (first | exact .n | refine .c rfl (by first | rfl | exact tqi (by omega) | (simp; done)) ?_))) ?_
    rintro ⟨j, s1⟩ i2
    try simp only [] at i2
    refine cseq ?_
    refine cseq ?_
    refine creg ?_
    refine o (.inl rfl) (L rfl) (mv rfl) rfl ?_
    refine o (.inl rfl) (L rfl) (mv rfl) rfl ?_
    refine o (.inl rfl) (L rfl) (ibin rfl rfl rfl) rfl ?_
    refine onil ?_
    refine xthn ?_
    refine ccond rfl (fun c5 => ?_) (fun c5 => ?_)
    · try simp only [q1, q2, q3, q4, q5, q6, q7, q8, q9, q10, q11, q12, q13, q14, q15, q16, q17] at c5
      refine cskip ?_
      refine xthn ?_
      refine cseq ?_
      refine cblock ?_
      refine creg ?_
      refine o (.inl rfl) (L rfl) (mv rfl) rfl ?_
      refine o (.inl rfl) (L rfl) (mv rfl) rfl ?_
      refine ocall c_spec_l15Blanks _ [] [] (by repeat (first | exact .n | refine .c rfl (.c (.e rfl)) ?_ | refine .c rfl (.c (.o (by decide) rfl)) ?_ | refine .c rfl (.c .n) ?_  | refine .c rfl (.g (by repeat (first | exact .n | refine .c (.e rfl) ?_ | refine .c (.o (by decide) rfl) ?_ | refine .c .n ?_))) ?_)) (by first | trivial | (refine ?_; omega) | (simp only []; omega) | (constructor <;> omega) | assumption) (.inl rfl) (by decide) (by decide) (by repeat (first | exact .n | refine .c rfl rfl ?_)) (Le rfl) (.inl rfl) (L rfl) ?_
      refine o (.inl rfl) (L rfl) (sadd rfl rfl (by first | omega | (simp [blanks_len]; omega))) rfl ?_
      refine o (.inl rfl) (L rfl) (sadd rfl rfl (by first | omega | (simp [blanks_len]; omega))) rfl ?_
      refine o (.inl rfl) (L rfl) (asn rfl) rfl ?_
      refine onil ?_
      refine xbn ?_
      refine xthn ?_
      refine creg ?_
      refine o (.inl rfl) (L rfl) (mv rfl) rfl ?_
      refine o (.inl rfl) (L rfl) (isub rfl rfl (by first | omega | (simp [blanks_len]; omega)) (by first | omega | (simp [blanks_len]; omega))) rfl ?_
      refine o (.inl rfl) (L rfl) (asn rfl) rfl ?_
      refine onil ?_
      refine xlq (j - 1, s1 ++ (blanks ((j : Int) - 1).toNat ++ [125, 10])) (by refine ⟨by omega, by omega, by simp [blanks_len]; omega, ?_⟩; rw [i2.2.2.2, closes_step (by omega)]; simp only [List.append_assoc]) (by simp only []; omega) (weak [0] (by decide) (h0 hH) (by repeat (first | exact .n | refine .c rfl (by first | rfl) ?_)) (by repeat (first | exact .n | refine .c rfl (by first | rfl | exact tqi (by omega) | (simp; done)) ?_)))
    · try simp only [q1, q2, q3, q4, q5, q6, q7, q8, q9, q10, q11, q12, q13, q14, q15, q16, q17] at c5
      have z2 : s ++ closes op.length k = s1 := by rw [i2.2.2.2, closes_end (by omega), List.append_nil]
      refine cexit ?_
      refine xthe ?_
      refine xle ?_
      refine xbh ?_
      refine xthn ?_
      refine cseq ?_
      refine cseq ?_
      refine creg ?_
      refine o (.inl rfl) (L rfl) (mv rfl) rfl ?_
      refine o (.inl rfl) (L rfl) (asn rfl) rfl ?_
      refine onil ?_
      refine xthn ?_
      refine cblock ?_
      refine cloop (ι := Nat × List UInt8) (fun | (q, s2) => [(0, .c (.l KRLSzSz) l), (12, .c (.l KRLSzSz) l), (13, .c (.i .i64) (l.length : Int)), (14, .c (.i .i64) (i : Int)), (4, .c (.l KS) op), (6, .bp 0 0), (7, .c (.i .i64) (((ix KRLSzSz.z l (i : Int)).1.length : Int) - 1)), (3, .c .s s2), (8, .c (.i .i64) (k : Int)), (10, .c (.i .i64) (q : Int))]) (fun | (q, s2) => [.box 94 (avs 2 KRLSzSz (ix KRLSzSz.z l (i : Int)))]) (fun | (q, s2) => k ≤ q ∧ (q : Int) ≤ (((ix KRLSzSz.z l (i : Int)).1.length : Int) - 1) ∧ s2.length ≤ s1.length + 20 * (q - k) ∧ s1 ++ opens (ix KRLSzSz.z l (i : Int)).1 k ((ix KRLSzSz.z l (i : Int)).1.length - 1 - k) = s2 ++ opens (ix KRLSzSz.z l (i : Int)).1 q ((ix KRLSzSz.z l (i : Int)).1.length - 1 - q)) (fun | (q, s2) => (ix KRLSzSz.z l (i : Int)).1.length - 1 - q) (k, s1) (by simp; omega) (weak [0] (by decide) (h0 hH) (by repeat (first | exact .n | refine .c rfl (by first | rfl) ?_)) (by repeat (first | exact .n | refine .c rfl (by first | rfl | (simp; done)) ?_))) ?_
      rintro ⟨q, s2⟩ i3
      try simp only [] at i3
      have gq := path_w gp.1 (q : Int)
      refine cseq ?_
      refine cseq ?_
      refine creg ?_
      refine o (.inl rfl) (L rfl) (mv rfl) rfl ?_
      refine o (.inl rfl) (L rfl) (mv rfl) rfl ?_
      refine o (.inl rfl) (L rfl) (ibin rfl rfl rfl) rfl ?_
      refine onil ?_
      refine xthn ?_
      refine ccond rfl (fun c6 => ?_) (fun c6 => ?_)
      · try simp only [q1, q2, q3, q4, q5, q6, q7, q8, q9, q10, q11, q12, q13, q14, q15, q16, q17] at c6
        refine cskip ?_
        refine xthn ?_
        refine cseq ?_
        refine cblock ?_
        refine cregd mixed (by kernel_rfl) ?_
        refine qo (.inl rfl) (L rfl) (mv rfl) rfl ?_
        refine qo (.inl rfl) (L rfl) (mv rfl) rfl ?_
        refine qcall c_spec_l15Blanks _ [] (by repeat (first | exact .n | refine .c rfl (.c (.e rfl)) ?_ | refine .c rfl (.c (.o (by decide) rfl)) ?_ | refine .c rfl (.c .n) ?_  | refine .c rfl (.g (by repeat (first | exact .n | refine .c (.e rfl) ?_ | refine .c (.o (by decide) rfl) ?_ | refine .c .n ?_))) ?_)) (by first | trivial | (refine ?_; omega) | (simp only []; omega) | (constructor <;> omega) | assumption) rfl rfl (.inl rfl) rfl (L rfl) ?_
        first | refine qo (.inl rfl) (L rfl) (fab rfl fi94_0) rfl ?_ | refine qo (.inl rfl) (L rfl) (fae rfl fi94_0) rfl ?_ | refine qo (.inl rfl) (L rfl) (far rfl fi94_0 (Le rfl)) rfl ?_
        first | refine qo (.inl rfl) (L rfl) (ldb rfl rfl rfl ti40) rfl ?_ | refine qo (.inl rfl) (L rfl) (ldr rfl ti40) rfl ?_ | refine qo (.inl rfl) (L rfl) (lde rfl rfl (by first | omega | (simp [blanks_len]; omega)) (L rfl) rfl ti40) rfl ?_
        refine qo (.inl rfl) (L rfl) (mv rfl) rfl ?_
        first | refine qo (.inl rfl) (L rfl) (ixl rfl rfl li40 rfl (by first | omega | (simp [blanks_len]; omega)) (by first | omega | (simp [blanks_len]; omega))) rfl ?_ | refine qo (.inl rfl) (L rfl) (ixo rfl rfl rfl li40 rfl (by first | omega | (simp [blanks_len]; omega)) (by first | omega | (simp [blanks_len]; omega))) rfl ?_
        first | refine qo (.inl rfl) (L rfl) (ldb rfl rfl rfl ti9) rfl ?_ | refine qo (.inl rfl) (L rfl) (ldr rfl ti9) rfl ?_ | refine qo (.inl rfl) (L rfl) (lde rfl rfl (by first | omega | (simp [blanks_len]; omega)) (L rfl) rfl ti9) rfl ?_
        refine qo (.inl rfl) (L rfl) (sadd rfl rfl (by first | omega | (simp [blanks_len]; omega))) rfl ?_
        refine qo (.inl rfl) (L rfl) (sadd rfl rfl (by first | omega | (simp [blanks_len]; omega))) rfl ?_
        refine qo (.inl rfl) (L rfl) (sadd rfl rfl (by first | omega | (simp [blanks_len]; omega))) rfl ?_
        refine qo (.inl rfl) (L rfl) (asn rfl) rfl ?_
        refine qnil ?_
        refine xbn ?_
        refine xthn ?_
        refine creg ?_
        refine o (.inl rfl) (L rfl) (mv rfl) rfl ?_
        refine o (.inl rfl) (L rfl) (iadd rfl rfl (by first | omega | (simp [blanks_len]; omega)) (by first | omega | (simp [blanks_len]; omega))) rfl ?_
        refine o (.inl rfl) (L rfl) (asn rfl) rfl ?_
        refine onil ?_
        refine xlq (q + 1, s2 ++ (blanks q ++ (ix KS.z (ix KRLSzSz.z l (i : Int)).1 (q : Int)).1 ++ [32, 123, 10])) (by refine ⟨by omega, by omega, by simp [blanks_len]; omega, ?_⟩; rw [i3.2.2.2, opens_step (by omega)]; simp only [List.append_assoc]; rfl) (by simp only []; omega) (weak [0] (by decide) (h0 hH) (by repeat (first | exact .n | refine .c rfl (by first | rfl) ?_)) (by repeat (first | exact .n | refine .c rfl (by first | rfl | (simp; done)) ?_)))
      · try simp only [q1, q2, q3, q4, q5, q6, q7, q8, q9, q10, q11, q12, q13, q14, q15, q16, q17] at c6
        have z3 : s1 ++ opens (ix KRLSzSz.z l (i : Int)).1 k ((ix KRLSzSz.z l (i : Int)).1.length - 1 - k) = s2 := by rw [i3.2.2.2, show (ix KRLSzSz.z l (i : Int)).1.length - 1 - q = 0 by omega, opens, List.append_nil]
        have gq := path_w gp.1 (((ix KRLSzSz.z l (i : Int)).1.length : Int) - 1)
        have tn : (((ix KRLSzSz.z l (i : Int)).1.length : Int) - 1).toNat = (ix KRLSzSz.z l (i : Int)).1.length - 1 := by omega
        refine cexit ?_
        refine xthe ?_
        refine xle ?_
        refine xbh ?_
        refine xthn ?_
        refine cseq ?_
        refine creg ?_
        first | refine o (.inl rfl) (L rfl) (fab rfl fi94_0) rfl ?_ | refine o (.inl rfl) (L rfl) (fae rfl fi94_0) rfl ?_ | refine o (.inl rfl) (L rfl) (far rfl fi94_0 (Le rfl)) rfl ?_
        first | refine o (.inl rfl) (L rfl) (ldb rfl rfl rfl ti40) rfl ?_ | refine o (.inl rfl) (L rfl) (ldr rfl ti40) rfl ?_ | refine o (.inl rfl) (L rfl) (lde rfl rfl (by first | omega | (simp [blanks_len]; omega)) (L rfl) rfl ti40) rfl ?_
        refine o (.inl rfl) (L rfl) (mv rfl) rfl ?_
        refine o (.inl rfl) (L rfl) (cuth rfl rfl li40 rfl (by first | omega | (simp [blanks_len]; omega)) (by first | omega | (simp [blanks_len]; omega))) rfl ?_
        refine o (.inl rfl) (L rfl) (asn rfl) rfl ?_
        refine onil ?_
        refine xthn ?_
        refine cregd mixed (by kernel_rfl) ?_
        refine qo (.inl rfl) (L rfl) (mv rfl) rfl ?_
        refine qo (.inl rfl) (L rfl) (mv rfl) rfl ?_
        refine qcall c_spec_l15Blanks _ [] (by repeat (first | exact .n | refine .c rfl (.c (.e rfl)) ?_ | refine .c rfl (.c (.o (by decide) rfl)) ?_ | refine .c rfl (.c .n) ?_  | refine .c rfl (.g (by repeat (first | exact .n | refine .c (.e rfl) ?_ | refine .c (.o (by decide) rfl) ?_ | refine .c .n ?_))) ?_)) (by first | trivial | (refine ?_; omega) | (simp only []; omega) | (constructor <;> omega) | assumption) rfl rfl (.inl rfl) rfl (L rfl) ?_
        first | refine qo (.inl rfl) (L rfl) (fab rfl fi94_0) rfl ?_ | refine qo (.inl rfl) (L rfl) (fae rfl fi94_0) rfl ?_ | refine qo (.inl rfl) (L rfl) (far rfl fi94_0 (Le rfl)) rfl ?_
        first | refine qo (.inl rfl) (L rfl) (ldb rfl rfl rfl ti40) rfl ?_ | refine qo (.inl rfl) (L rfl) (ldr rfl ti40) rfl ?_ | refine qo (.inl rfl) (L rfl) (lde rfl rfl (by first | omega | (simp [blanks_len]; omega)) (L rfl) rfl ti40) rfl ?_
        refine qo (.inl rfl) (L rfl) (mv rfl) rfl ?_
        first | refine qo (.inl rfl) (L rfl) (ixl rfl rfl li40 rfl (by first | omega | (simp [blanks_len]; omega)) (by first | omega | (simp [blanks_len]; omega))) rfl ?_ | refine qo (.inl rfl) (L rfl) (ixo rfl rfl rfl li40 rfl (by first | omega | (simp [blanks_len]; omega)) (by first | omega | (simp [blanks_len]; omega))) rfl ?_
        first | refine qo (.inl rfl) (L rfl) (ldb rfl rfl rfl ti9) rfl ?_ | refine qo (.inl rfl) (L rfl) (ldr rfl ti9) rfl ?_ | refine qo (.inl rfl) (L rfl) (lde rfl rfl (by first | omega | (simp [blanks_len]; omega)) (L rfl) rfl ti9) rfl ?_
        refine qo (.inl rfl) (L rfl) (sadd rfl rfl (by first | omega | (simp [blanks_len]; omega))) rfl ?_
        refine qo (.inl rfl) (L rfl) (sadd rfl rfl (by first | omega | (simp [blanks_len]; omega))) rfl ?_
        first | refine qo (.inl rfl) (L rfl) (fab rfl fi94_1) rfl ?_ | refine qo (.inl rfl) (L rfl) (fae rfl fi94_1) rfl ?_ | refine qo (.inl rfl) (L rfl) (far rfl fi94_1 (Le rfl)) rfl ?_
        first | refine qo (.inl rfl) (L rfl) (ldb rfl rfl rfl ti9) rfl ?_ | refine qo (.inl rfl) (L rfl) (ldr rfl ti9) rfl ?_ | refine qo (.inl rfl) (L rfl) (lde rfl rfl (by first | omega | (simp [blanks_len]; omega)) (L rfl) rfl ti9) rfl ?_
        refine qo (.inl rfl) (L rfl) (sadd rfl rfl (by first | omega | (simp [blanks_len]; omega))) rfl ?_
        refine qo (.inl rfl) (L rfl) (sadd rfl rfl (by first | omega | (simp [blanks_len]; omega))) rfl ?_
        refine qo (.inl rfl) (L rfl) (sadd rfl rfl (by first | omega | (simp [blanks_len]; omega))) rfl ?_
        refine qo (.inl rfl) (L rfl) (asn rfl) rfl ?_
        refine qnil ?_
        refine xbn ?_
        refine xthn ?_
        refine creg ?_
        refine o (.inl rfl) (L rfl) (iadd rfl rfl (by first | omega | (simp [blanks_len]; omega)) (by first | omega | (simp [blanks_len]; omega))) rfl ?_
        refine o (.inl rfl) (L rfl) (mv rfl) rfl ?_
        refine onil ?_
        refine xlq (i + 1, s2 ++ (blanks ((ix KRLSzSz.z l (i : Int)).1.length - 1) ++ (ix KS.z (ix KRLSzSz.z l (i : Int)).1 (((ix KRLSzSz.z l (i : Int)).1.length : Int) - 1)).1 ++ [32] ++ (ix KRLSzSz.z l (i : Int)).2.1 ++ [59, 10]), (ix KRLSzSz.z l (i : Int)).1.take ((ix KRLSzSz.z l (i : Int)).1.length - 1)) (by refine ⟨by omega, by simp [blanks_len]; omega, by simp; omega, ?_⟩; rw [i0.2.2.2, drop_ix (xs := l) (i := i) (z := KRLSzSz.z) (by omega), txt, ← mb2, ← z3, ← z2]; simp only [leafT, List.append_assoc]) (by simp only []; omega) (weak [] (by decide) (h0 hH) (by repeat (first | exact .n | refine .c rfl (by first | rfl) ?_)) (by repeat (first | exact .n | refine .c rfl (by first | rfl | exact tq (by rw [tn]) | (simp; done)) ?_)))
  · try simp only [q1, q2, q3, q4, q5, q6, q7, q8, q9, q10, q11, q12, q13, q14, q15, q16, q17] at c1
    refine cexit ?_
    refine xthe ?_
    refine xle ?_
    refine xbh ?_
    refine xthn ?_
    refine cseq ?_
    refine cseq ?_
    refine creg ?_
    refine o (.inl rfl) (L rfl) (mv rfl) rfl ?_
    first | refine ofact (t := 95) rfl fun hl5 => ?_ | refine ofacts (t := 95) rfl fun hl5 => ?_ | skip
    first | refine o (.inl rfl) (L rfl) (lenl rfl li40) rfl ?_ | refine o (.inl rfl) (L rfl) (leno rfl rfl li40) rfl ?_ | refine o (.inl rfl) (L rfl) (lennl rfl li40) rfl ?_
    refine o (.inl rfl) (L rfl) (isub rfl rfl (by first | omega | (simp [blanks_len]; omega)) (by first | omega | (simp [blanks_len]; omega))) rfl ?_
    refine o (.inl rfl) (L rfl) (asn rfl) rfl ?_
    refine onil ?_
    refine xthn ?_
    refine cblock ?_
    refine cloop (ι := Nat × List UInt8) (fun | (j, s1) => [(3, .c .s s1), (11, .c (.i .i64) ((j : Int) - 1))]) (fun | (j, s1) => []) (fun | (j, s1) => j ≤ op.length ∧ s1.length ≤ 400 * i + 10 * (op.length - j) ∧ s ++ closes op.length 0 = s1 ++ closes j 0) (fun | (j, s1) => j) (op.length, s) (by simp; omega) (weak [] (by decide) (h0 hH) (by repeat (first | exact .n | refine .c rfl (by first | rfl) ?_)) (by repeat (first | exact .n | refine .c rfl (by first | rfl | exact tqi (by omega) | (simp; done)) ?_))) ?_
    rintro ⟨j, s1⟩ i4
    try simp only [] at i4
    refine cseq ?_
    refine cseq ?_
    refine creg ?_
    refine o (.inl rfl) (L rfl) (mv rfl) rfl ?_
    refine o (.inl rfl) (L rfl) (ibin rfl rfl rfl) rfl ?_
    refine onil ?_
    refine xthn ?_
    refine ccond rfl (fun c7 => ?_) (fun c7 => ?_)
    · try simp only [q1, q2, q3, q4, q5, q6, q7, q8, q9, q10, q11, q12, q13, q14, q15, q16, q17] at c7
      refine cskip ?_
      refine xthn ?_
      refine cseq ?_
      refine cblock ?_
      refine creg ?_
      refine o (.inl rfl) (L rfl) (mv rfl) rfl ?_
      refine o (.inl rfl) (L rfl) (mv rfl) rfl ?_
      refine ocall c_spec_l15Blanks _ [] [] (by repeat (first | exact .n | refine .c rfl (.c (.e rfl)) ?_ | refine .c rfl (.c (.o (by decide) rfl)) ?_ | refine .c rfl (.c .n) ?_  | refine .c rfl (.g (by repeat (first | exact .n | refine .c (.e rfl) ?_ | refine .c (.o (by decide) rfl) ?_ | refine .c .n ?_))) ?_)) (by first | trivial | (refine ?_; omega) | (simp only []; omega) | (constructor <;> omega) | assumption) (.inl rfl) (by decide) (by decide) (by repeat (first | exact .n | refine .c rfl rfl ?_)) (Le rfl) (.inl rfl) (L rfl) ?_
      refine o (.inl rfl) (L rfl) (sadd rfl rfl (by first | omega | (simp [blanks_len]; omega))) rfl ?_
      refine o (.inl rfl) (L rfl) (sadd rfl rfl (by first | omega | (simp [blanks_len]; omega))) rfl ?_
      refine o (.inl rfl) (L rfl) (asn rfl) rfl ?_
      refine onil ?_
      refine xbn ?_
      refine xthn ?_
      refine creg ?_
      refine o (.inl rfl) (L rfl) (mv rfl) rfl ?_
      refine o (.inl rfl) (L rfl) (isub rfl rfl (by first | omega | (simp [blanks_len]; omega)) (by first | omega | (simp [blanks_len]; omega))) rfl ?_
      refine o (.inl rfl) (L rfl) (asn rfl) rfl ?_
      refine onil ?_
      refine xlq (j - 1, s1 ++ (blanks ((j : Int) - 1).toNat ++ [125, 10])) (by refine ⟨by omega, by simp [blanks_len]; omega, ?_⟩; rw [i4.2.2, closes_step (by omega)]; simp only [List.append_assoc]) (by simp only []; omega) (weak [] (by decide) (h0 hH) (by repeat (first | exact .n | refine .c rfl (by first | rfl) ?_)) (by repeat (first | exact .n | refine .c rfl (by first | rfl | exact tqi (by omega) | (simp; done)) ?_)))
    · try simp only [q1, q2, q3, q4, q5, q6, q7, q8, q9, q10, q11, q12, q13, q14, q15, q16, q17] at c7
      refine cexit ?_
      refine xthe ?_
      refine xle ?_
      refine xbh ?_
      refine xthn ?_
      refine cseq ?_
      refine creg ?_
      refine o (.inl rfl) (L rfl) (mv rfl) rfl ?_
      refine o (.inl rfl) (L rfl) (asn rfl) rfl ?_
      refine onil ?_
      refine xthn ?_
      refine cret ?_
      refine retd rfl (.t rfl (.n)) (h0 hH) rfl ?_
      refine re ?_
      rw [i0.2.2.2, drop_nil (xs := l) (i := i) (by omega), txt, i4.2.2, closes_end (by omega), List.append_nil]

end Go.Proofs.YtifpekpmnlcmoaaE
