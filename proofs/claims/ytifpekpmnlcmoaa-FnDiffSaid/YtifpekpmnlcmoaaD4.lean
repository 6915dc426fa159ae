import Derived.Test.YtifpekpmnlcmoaaProg
import Derived.Test.YtifpekpmnlcmoaaE33
import Derived.Test.YtifpekpmnlcmoaaD3
set_option linter.unusedVariables false
set_option linter.unusedSimpArgs false
set_option maxRecDepth 100000
namespace Go.Proofs.YtifpekpmnlcmoaaE
open Go Go.RowKit Go.Shelf Go.Proofs

theorem bl_trans : ∀ (a b c : List UInt8), Op.bytesLess a b = true → Op.bytesLess b c = true → Op.bytesLess a c = true
  | _, _, [], _, h => by cases ‹List UInt8› <;> simp [Op.bytesLess] at h
  | [], _, _ :: _, _, _ => by simp [Op.bytesLess]
  | _ :: _, [], _ :: _, h, _ => by simp [Op.bytesLess] at h
  | a :: x, b :: y, c :: z, h1, h2 => by
    simp only [Op.bytesLess, Bool.or_eq_true, Bool.and_eq_true, decide_eq_true_eq, beq_iff_eq] at h1 h2 ⊢
    rcases h1 with h1 | ⟨rfl, h1⟩
    · rcases h2 with h2 | ⟨rfl, h2⟩
      · exact .inl (UInt8.lt_trans h1 h2)
      · exact .inl h1
    · rcases h2 with h2 | ⟨rfl, h2⟩
      · exact .inl h2
      · exact .inr ⟨rfl, bl_trans x y z h1 h2⟩
theorem bl_asym {a b : List UInt8} (h : Op.bytesLess a b = true) : Op.bytesLess b a = false := by
  cases hb : Op.bytesLess b a with
  | false => rfl
  | true => have := bl_trans _ _ _ h hb; rw [bl_irr] at this; cases this
theorem less_trans : ∀ (a b c : StrS), less a b = true → less b c = true → less a c = true
  | [], [], c, h, _ => by simp [less] at h
  | [], _ :: _, [], _, h => by simp [less] at h
  | [], _ :: _, _ :: _, _, _ => by simp [less]
  | _ :: _, [], _, h, _ => by simp [less] at h
  | _ :: _, _ :: _, [], _, h => by simp [less] at h
  | x :: a, y :: b, z :: c, h1, h2 => by
    simp only [less] at h1 h2 ⊢
    by_cases e1 : x.1 = y.1
    · rw [if_pos e1] at h1
      by_cases e2 : y.1 = z.1
      · rw [if_pos e2] at h2
        rw [if_pos (e1.trans e2)]; exact less_trans a b c h1 h2
      · rw [if_neg e2] at h2
        rw [if_neg (e1 ▸ e2), e1]; exact h2
    · rw [if_neg e1] at h1
      by_cases e2 : y.1 = z.1
      · rw [if_pos e2] at h2
        rw [if_neg (e2 ▸ e1), ← e2]; exact h1
      · rw [if_neg e2] at h2
        have h3 := bl_trans _ _ _ h1 h2
        by_cases e3 : x.1 = z.1
        · rw [e3, bl_irr] at h3; cases h3
        · rw [if_neg e3]; exact h3
theorem less_irr : ∀ (a : StrS), less a a = false
  | [] => rfl
  | x :: a => by simp only [less, if_true]; exact less_irr a
theorem beg_mid : ∀ (x y z : StrS), less x y = true → less y z = true → beg x z = true → beg x y = true
  | [], _, _, _, _, _ => rfl
  | _ :: _, [], _, h, _, _ => by simp [less] at h
  | _ :: _, _ :: _, [], _, h, _ => by simp [less] at h
  | a :: x, b :: y, c :: z, h1, h2, h3 => by
    simp only [less, beg, Bool.and_eq_true, decide_eq_true_eq] at h1 h2 h3 ⊢
    obtain ⟨e, h3⟩ := h3
    by_cases e1 : a.1 = b.1
    · rw [if_pos e1] at h1
      rw [if_pos (e1 ▸ e)] at h2
      exact ⟨e1, beg_mid x y z h1 h2 h3⟩
    · rw [if_neg e1] at h1
      rw [if_neg (fun e2 => e1 (e.trans e2.symm)), ← e] at h2
      rw [bl_asym h1] at h2; cases h2
abbrev Lt (x y : KRLSzSz.den) : Prop := less x.1 y.1 = true ∧ beg x.1 y.1 = false
theorem good_adj {l : Leafs} (h : good l = true) {i : Nat} (hi : i + 1 < l.length) : Lt (l[i]) (l[i + 1]) := by
  simp only [good, Bool.and_eq_true, List.all_eq_true] at h
  have := h.1 (i + 1) (List.mem_range.2 hi)
  simp only [stOK, Bool.and_eq_true, Bool.or_eq_true, decide_eq_true_eq] at this
  have h2 := this.2.resolve_left (by omega)
  have e1 : ix KRLSzSz.z l (((i + 1 : Nat) : Int) - 1) = l[i] := by
    rw [show (((i + 1 : Nat) : Int) - 1) = (i : Int) by omega]; simp [ix, List.getD_eq_getElem?_getD, show i < l.length by omega]
  have e2 : ix KRLSzSz.z l ((i + 1 : Nat) : Int) = l[i + 1] := by
    simp only [ix, List.getD_eq_getElem?_getD, Int.toNat_natCast, List.getElem?_eq_getElem hi, Option.getD_some]
  rw [e1, e2] at h2
  exact ⟨h2.1, by simpa using h2.2⟩
theorem good_pw {l : Leafs} (h : good l = true) : l.Pairwise Lt := by
  rw [List.pairwise_iff_getElem]
  intro i j hi hj hij
  obtain ⟨k, rfl⟩ : ∃ k, j = i + 1 + k := ⟨j - (i + 1), by omega⟩
  clear hij
  induction k with
  | zero => exact good_adj h hj
  | succ k ih =>
    have h1 := ih (by omega)
    have h2 := good_adj h (i := i + 1 + k) (by omega)
    refine ⟨less_trans _ _ _ h1.1 h2.1, ?_⟩
    cases hb : beg l[i].1 l[i + 1 + (k + 1)].1 with
    | false => rfl
    | true => have := beg_mid _ _ _ h1.1 h2.1 hb; rw [h1.2] at this; cases this
theorem good_mem {l : Leafs} (h : good l = true) {x : KRLSzSz.den} (hx : x ∈ l) : path x.1 = true ∧ word x.2.1 = true := by
  obtain ⟨i, hi, rfl⟩ := List.getElem_of_mem hx
  have := good_at h hi
  have e : ix KRLSzSz.z l (i : Int) = l[i] := by simp [ix, List.getD_eq_getElem?_getD, hi]
  rwa [e] at this
theorem good_of {l : Leafs} (h1 : l.Pairwise Lt) (h2 : ∀ x ∈ l, path x.1 = true ∧ word x.2.1 = true) (h3 : l.length ≤ 30) : good l = true := by
  simp only [good, Bool.and_eq_true, List.all_eq_true, decide_eq_true_eq]
  refine ⟨fun i hi => ?_, h3⟩
  have hil := List.mem_range.1 hi
  have e : ix KRLSzSz.z l (i : Int) = l[i] := by simp [ix, List.getD_eq_getElem?_getD, hil]
  have hm := h2 _ (List.getElem_mem hil)
  simp only [stOK, e, Bool.and_eq_true, Bool.or_eq_true, decide_eq_true_eq]
  refine ⟨hm, ?_⟩
  cases i with
  | zero => exact .inl rfl
  | succ i =>
    right
    have e1 : ix KRLSzSz.z l (((i + 1 : Nat) : Int) - 1) = l[i] := by
      rw [show (((i + 1 : Nat) : Int) - 1) = (i : Int) by omega]; simp [ix, List.getD_eq_getElem?_getD, show i < l.length by omega]
    rw [e1]
    have := List.pairwise_iff_getElem.1 h1 i (i + 1) (by omega) hil (by omega)
    exact ⟨this.1, by simp [this.2]⟩
/-- A leaf put to its place. -/
def put (l : Leafs) (x : KRLSzSz.den) : Leafs := l.takeWhile (fun y => less y.1 x.1) ++ x :: l.dropWhile (fun y => less y.1 x.1)
def setIn (l : Leafs) (p : StrS) (v : List UInt8) : Leafs := put (l.filter fun x => !(beg x.1 p || beg p x.1)) (p, v, ())
def cfgSet (l : Leafs) (p : StrS) (v : List UInt8) : Leafs × Bool := if good l = true ∧ path p = true ∧ word v = true ∧ good (setIn l p v) = true then (setIn l p v, true) else ([], false)
def delIn (l : Leafs) (p : StrS) : Leafs := l.filter fun x => !beg p x.1
def cfgDel (l : Leafs) (p : StrS) : Leafs × Bool := if good l = true ∧ path p = true ∧ (delIn l p).length ≠ l.length then (delIn l p, true) else ([], false)
theorem setIn_eq (l : Leafs) (p : StrS) (v : List UInt8) (P : KRLSzSz.den → Bool) (hP : P = fun x => !(beg x.1 p || beg p x.1)) : (l.filter P).take (cut (fun x : KRLSzSz.den => decide (cmpS x.1 p < 0)) (l.filter P)) ++ (p, v, ()) :: (l.filter P).drop (cut (fun x : KRLSzSz.den => decide (cmpS x.1 p < 0)) (l.filter P)) = setIn l p v := by
  subst hP
  rw [cut_take, cut_drop]
  simp only [setIn, put, less_eq]
theorem good_mono {l : Leafs} (h : good l = true) (p : StrS) (P : KRLSzSz.den → Bool) : Mono (fun x : KRLSzSz.den => decide (cmpS x.1 p < 0)) KRLSzSz.z (l.filter P) := by
  refine mono_of (R := Lt) ((good_pw h).filter P) (fun x y hxy hy => ?_)
  rw [← less_eq] at hy ⊢
  exact less_trans _ _ _ hxy.1 hy

theorem c_impl_setAt : Fe Go.Proofs.Try.prog 130 (ι := Leafs × StrS × List UInt8) (fun | (l, p, v) => [.c (.l KRLSzSz) l, .c (.l KS) p, .c .s v]) (fun | (l, p, v) => []) (fun | (l, p, v) => good l = true ∧ p.length ≤ 1048576) (fun | (l, p, v) => (.tup [.own 0, .c .b (good (setIn l p v))], [.arr true 94 KRLSzSz (setIn l p v)])) := by
  refine fnE (n := 32) Go.Proofs.Try.func130 rfl rfl (ent Go.Proofs.Try.func130 (by kernel_rfl) rfl) ?_
  rintro ⟨l, p, v⟩ hx
  refine ⟨Le rfl, fun w0 S0 H Z hH => ?_⟩
  try simp only [] at hx
  have gl := good_len hx.1
  have gf : ∀ P : KRLSzSz.den → Bool, (l.filter P).length ≤ 30 := fun P => Nat.le_trans (List.length_filter_le _ _) gl
  refine cseq ?_
  refine creg ?_
  refine e1 (av := .bp 0 0) (sbox rfl rfl) ?_
  refine o1 (asn rfl) ?_
  refine o1 (asn rfl) ?_
  refine onil ?_
  refine xthn ?_
  refine cseq ?_
  refine creg ?_
  refine o1 (mv rfl) ?_
  refine ce c_impl_ownConfig _ [] [] (.c rfl (.c (.e rfl)) (.n)) (by exact ⟨by omega, fun x hx2 => by have := (path_len (good_mem hx.1 hx2).1).2; omega⟩) (by decide) (by decide) (.n) rfl (.inl rfl) ?_ (.inl rfl)
  refine owk (wsl (t := 12) (.own 1) rfl rfl) ?_
  refine o1 (mkf (.c rfl .n)) ?_
  refine ce c_slices_DeleteFunc_impl_Leaf_impl_Leaf_setAt (_, _) [1] [0] (.c rfl (.c (.e rfl)) (.c rfl (.f (.c (.b (k := 0) (by decide) rfl rfl rfl (.c (.e rfl) (.n))) (.n))) (.n))) (by omega) (by decide) (by decide) (.c rfl rfl (.n)) rfl (.inr ⟨rfl, by simp [Ob.free]⟩) ?_ (.inl rfl)
  refine owk (wsl (t := 14) (.own 2) rfl rfl) ?_
  refine o1 (asn rfl) ?_
  refine onil ?_
  refine xthn ?_
  refine cseq ?_
  refine creg ?_
  refine o1 (mv rfl) ?_
  refine o1 (ldb rfl rfl rfl ti40) ?_
  refine cl c_slices_BinarySearchFunc_impl_Leaf_impl_Leaf_string_setAt (_, _) [] [2] (.c rfl (.c (.o (k := 2) (by decide) rfl)) (.c rfl (.c (.e rfl)) (.c rfl (.c (.e rfl)) (.n)))) (by exact ⟨good_mono hx.1 _ _, Nat.le_trans (gf _) (by omega)⟩) (by decide) (by decide) (.n) (fun | (_, _) => Le rfl) (.inr fun | (_, _) => ⟨rfl, by simp [Ob.free]⟩) ?_ (.inl rfl)
  rintro ⟨k1, b1⟩ hy1
  try simp only [] at hy1
  subst hy1
  refine owk (wnorm (.c (o := .box _ _) rfl (.c rfl (.c (o := .arr _ _ _ _) rfl (.n)))) rfl) ?_
  refine o1 (mv rfl) ?_
  refine o1 (xtr rfl rfl) ?_
  refine o1 (xtr rfl rfl) ?_
  refine o1 (asn rfl) ?_
  refine o1 (asn rfl) ?_
  refine onil ?_
  refine xthn ?_
  refine cseq ?_
  refine creg ?_
  refine o1 (mv rfl) ?_
  refine o1 (mv rfl) ?_
  refine o1 (ldb rfl rfl rfl ti40) ?_
  refine ce c_slices_Clone_string_string _ [] [] (.c rfl (.c (.e rfl)) (.n)) (by omega) (by decide) (by decide) (.n) rfl (.inl rfl) ?_ (.inl rfl)
  refine owk (wsl (t := 24) (.own 3) rfl rfl) ?_
  refine o1 (mv rfl) ?_
  refine o1 (bld pi94 zi94 (.c rfl rfl (.c rfl rfl .n)) rfl) ?_
  refine e1 (av := .own 4) (sbs1d mi26 (L rfl) (Le rfl) rfl .g (.o (k := 3) rfl rfl (.c rfl (.n))) (by decide)) ?_
  refine ce c_slices_Insert_impl_Leaf_impl_Leaf (_, _, _) [2, 4] [] (.c rfl (.c (.e rfl)) (.c rfl (.c (.e rfl)) (.c rfl (.c (.e rfl)) (.n)))) (by exact ⟨cut_le, Nat.le_trans (gf _) (by omega)⟩) (by decide) (by decide) (.c rfl rfl (.c rfl rfl (.n))) rfl (.inl rfl) ?_ (.inl rfl)
  refine owk (wsl (t := 28) (.own 5) rfl rfl) ?_
  refine owk (wnorm (.c (o := .box _ _) rfl (.c rfl (.c rfl (.c rfl (.c rfl (.c (o := .arr _ _ _ _) rfl (.n))))))) rfl) ?_
  refine o1 (asn rfl) ?_
  refine onil ?_
  refine xthn ?_
  refine cseq ?_
  refine creg ?_
  refine o1 (mv rfl) ?_
  refine o1 (mv rfl) ?_
  refine ce c_impl_GoodConfig _ [] [5] (.c rfl (.c (.o (k := 5) (by decide) rfl)) (.n)) (by first | trivial | assumption | omega | (simp only []; omega) | (refine ?_; omega) | (constructor <;> omega) | (refine ⟨?_, ?_⟩ <;> (first | assumption | omega | (simp; omega)))) (by decide) (by decide) (.n) rfl (.inr ⟨rfl, by simp [Ob.free]⟩) ?_ (.inl rfl)
  refine o1 (asn rfl) ?_
  refine o1 (asn rfl) ?_
  refine onil ?_
  refine xthn ?_
  refine cret ?_
  refine retg (bs := [.own 0, .c .b (good (setIn l p v))]) (ob' := [.arr true 94 KRLSzSz (setIn l p v)]) [5] rfl (.t rfl (.t rfl (.n))) (by decide) (hk hH rfl) (.c rfl (arq ?_) (.n)) (lc rfl (lc (cq ?_) rfl)) rfl
  all_goals try rfl
  · exact setIn_eq _ _ _ _ rfl
  · exact congrArg good (setIn_eq _ _ _ _ rfl)

theorem c_impl_SetAt : Fe Go.Proofs.Try.prog 82 (ι := Leafs × StrS × List UInt8) (fun | (l, p, v) => [.c (.l KRLSzSz) l, .c (.l KS) p, .c .s v]) (fun | (l, p, v) => []) (fun | (l, p, v) => True) (fun | (l, p, v) => (.tup [.own 0, .c .b (cfgSet l p v).2], [.arr true 94 KRLSzSz (cfgSet l p v).1])) := by
  refine fnE (n := 33) Go.Proofs.Try.func82 rfl rfl (ent Go.Proofs.Try.func82 (by kernel_rfl) rfl) ?_
  rintro ⟨l, p, v⟩ hx
  refine ⟨Le rfl, fun w0 S0 H Z hH => ?_⟩
  try simp only [] at hx
  refine cseq ?_
  refine creg ?_
  refine o1 (asn rfl) ?_
  refine o1 (asn rfl) ?_
  refine onil ?_
  refine xthn ?_
  refine cseq ?_
  refine cseq ?_
  refine creg ?_
  refine o1 (mv rfl) ?_
  refine ce c_impl_GoodConfig _ [] [] (.c rfl (.c (.e rfl)) (.n)) (by first | trivial | assumption | omega | (simp only []; omega) | (refine ?_; omega) | (constructor <;> omega) | (refine ⟨?_, ?_⟩ <;> (first | assumption | omega | (simp; omega)))) (by decide) (by decide) (.n) rfl (.inl rfl) ?_ (.inl rfl)
  refine o1 (unot rfl) ?_
  refine o1 (mv rfl) ?_
  refine ocase (t := 13) rfl (fun c1 => ?_) (fun c1 => ?_)
  · try simp only [q1, q2, q3, q4, q5, q6, q7, q8, q9, q10, q11, q12, q13, q14, q15, q16, q17] at c1
    refine os rfl ?_
    refine os rfl ?_
    refine os rfl ?_
    refine o1 (pickT rfl rfl) ?_
    refine o1 (mv rfl) ?_
    refine os rfl ?_
    refine os rfl ?_
    refine os rfl ?_
    refine o1 (pickT rfl rfl) ?_
    refine onil ?_
    refine xthn ?_
    refine ccT rfl ?_
    refine cseq ?_
    refine creg ?_
    refine o1 (asn rfl) ?_
    refine o1 (asn rfl) ?_
    refine onil ?_
    refine xthn ?_
    refine cret ?_
    refine xthr ?_
    refine xwk (wno (t := 6) true 94 KRLSzSz rfl) ?_
    refine retg (bs := [.own 0, .c .b (cfgSet l p v).2]) (ob' := [.arr true 94 KRLSzSz (cfgSet l p v).1]) [0] rfl (.t rfl (.t rfl (.n))) (by decide) (hk hH rfl) (.c rfl (arq ?_) (.n)) (lc rfl (lc (cq ?_) rfl)) rfl
    all_goals first | rfl | (simp_all [cfgSet])
  · try simp only [q1, q2, q3, q4, q5, q6, q7, q8, q9, q10, q11, q12, q13, q14, q15, q16, q17] at c1
    refine og (mv rfl) ?_
    refine ce c_impl_areWords _ [] [] (.c rfl (.c (.e rfl)) (.n)) (by first | trivial | assumption | omega | (simp only []; omega) | (refine ?_; omega) | (constructor <;> omega) | (refine ⟨?_, ?_⟩ <;> (first | assumption | omega | (simp; omega)))) (by decide) (by decide) (.n) rfl (.inl rfl) ?_ (wgd rfl rfl rfl)
    refine og (unot rfl) ?_
    refine o1 (pickF rfl rfl) ?_
    refine o1 (mv rfl) ?_
    refine ocase (t := 18) rfl (fun c2 => ?_) (fun c2 => ?_)
    · try simp only [q1, q2, q3, q4, q5, q6, q7, q8, q9, q10, q11, q12, q13, q14, q15, q16, q17] at c2
      refine os rfl ?_
      refine os rfl ?_
      refine os rfl ?_
      refine o1 (pickT rfl rfl) ?_
      refine onil ?_
      refine xthn ?_
      refine ccT rfl ?_
      refine cseq ?_
      refine creg ?_
      refine o1 (asn rfl) ?_
      refine o1 (asn rfl) ?_
      refine onil ?_
      refine xthn ?_
      refine cret ?_
      refine xthr ?_
      refine xwk (wno (t := 6) true 94 KRLSzSz rfl) ?_
      refine retg (bs := [.own 0, .c .b (cfgSet l p v).2]) (ob' := [.arr true 94 KRLSzSz (cfgSet l p v).1]) [0] rfl (.t rfl (.t rfl (.n))) (by decide) (hk hH rfl) (.c rfl (arq ?_) (.n)) (lc rfl (lc (cq ?_) rfl)) rfl
      all_goals first | rfl | (simp_all [cfgSet])
    · try simp only [q1, q2, q3, q4, q5, q6, q7, q8, q9, q10, q11, q12, q13, q14, q15, q16, q17] at c2
      refine og (mv rfl) ?_
      refine ce c_impl_isWord _ [] [] (.c rfl (.c (.e rfl)) (.n)) (by first | trivial | assumption | omega | (simp only []; omega) | (refine ?_; omega) | (constructor <;> omega) | (refine ⟨?_, ?_⟩ <;> (first | assumption | omega | (simp; omega)))) (by decide) (by decide) (.n) rfl (.inl rfl) ?_ (wgd rfl rfl rfl)
      refine og (unot rfl) ?_
      refine o1 (pickF rfl rfl) ?_
      refine onil ?_
      refine xthn ?_
      refine ccond rfl (fun c3 => ?_) (fun c3 => ?_)
      · try simp only [q1, q2, q3, q4, q5, q6, q7, q8, q9, q10, q11, q12, q13, q14, q15, q16, q17] at c3
        refine cseq ?_
        refine creg ?_
        refine o1 (asn rfl) ?_
        refine o1 (asn rfl) ?_
        refine onil ?_
        refine xthn ?_
        refine cret ?_
        refine xthr ?_
        refine xwk (wno (t := 6) true 94 KRLSzSz rfl) ?_
        refine retg (bs := [.own 0, .c .b (cfgSet l p v).2]) (ob' := [.arr true 94 KRLSzSz (cfgSet l p v).1]) [0] rfl (.t rfl (.t rfl (.n))) (by decide) (hk hH rfl) (.c rfl (arq ?_) (.n)) (lc rfl (lc (cq ?_) rfl)) rfl
        all_goals first | rfl | (simp_all [cfgSet])
      · try simp only [q1, q2, q3, q4, q5, q6, q7, q8, q9, q10, q11, q12, q13, q14, q15, q16, q17] at c3
        refine cskip ?_
        refine xthn ?_
        refine cseq ?_
        refine creg ?_
        refine o1 (mv rfl) ?_
        refine o1 (mv rfl) ?_
        refine o1 (mv rfl) ?_
        refine ce c_impl_setAt (_, _, _) [] [] (.c rfl (.c (.e rfl)) (.c rfl (.c (.e rfl)) (.c rfl (.c (.e rfl)) (.n)))) (by exact ⟨c1, by have := path_len c2; omega⟩) (by decide) (by decide) (.n) rfl (.inl rfl) ?_ (.inl rfl)
        refine owk (wnorm (.c (o := .arr _ _ _ _) rfl (.n)) rfl) ?_
        refine o1 (mv rfl) ?_
        refine o1 (av := .own 0) (xtr rfl rfl) ?_
        refine o1 (xtr rfl rfl) ?_
        refine o1 (asn rfl) ?_
        refine o1 (asn rfl) ?_
        refine onil ?_
        refine xthn ?_
        refine cseq ?_
        refine cseq ?_
        refine creg ?_
        refine o1 (mv rfl) ?_
        refine o1 (unot rfl) ?_
        refine onil ?_
        refine xthn ?_
        refine ccond rfl (fun c4 => ?_) (fun c4 => ?_)
        · try simp only [q1, q2, q3, q4, q5, q6, q7, q8, q9, q10, q11, q12, q13, q14, q15, q16, q17] at c4
          refine cseq ?_
          refine creg ?_
          refine o1 (asn rfl) ?_
          refine o1 (asn rfl) ?_
          refine onil ?_
          refine xthn ?_
          refine cret ?_
          refine xthr ?_
          refine xwk (wno (t := 6) true 94 KRLSzSz rfl) ?_
          refine retg (bs := [.own 0, .c .b (cfgSet l p v).2]) (ob' := [.arr true 94 KRLSzSz (cfgSet l p v).1]) [1] rfl (.t rfl (.t rfl (.n))) (by decide) (hk hH rfl) (.c rfl (arq ?_) (.n)) (lc rfl (lc (cq ?_) rfl)) rfl
          all_goals first | rfl | (simp_all [cfgSet])
        · try simp only [q1, q2, q3, q4, q5, q6, q7, q8, q9, q10, q11, q12, q13, q14, q15, q16, q17] at c4
          refine cskip ?_
          refine xthn ?_
          refine cseq ?_
          refine creg ?_
          refine o1 (mv rfl) ?_
          refine o1 (asn rfl) ?_
          refine o1 (asn rfl) ?_
          refine onil ?_
          refine xthn ?_
          refine cret ?_
          refine retg (bs := [.own 0, .c .b (cfgSet l p v).2]) (ob' := [.arr true 94 KRLSzSz (cfgSet l p v).1]) [0] rfl (.t rfl (.t rfl (.n))) (by decide) (hk hH rfl) (.c rfl (arq ?_) (.n)) (lc rfl (lc (cq ?_) rfl)) rfl
          all_goals first | rfl | (simp_all [cfgSet])

theorem c_impl_DeleteAt : Fe Go.Proofs.Try.prog 83 (ι := Leafs × StrS) (fun | (l, p) => [.c (.l KRLSzSz) l, .c (.l KS) p]) (fun | (l, p) => []) (fun | (l, p) => True) (fun | (l, p) => (.tup [.own 0, .c .b (cfgDel l p).2], [.arr true 94 KRLSzSz (cfgDel l p).1])) := by
  refine fnE (n := 25) Go.Proofs.Try.func83 rfl rfl (ent Go.Proofs.Try.func83 (by kernel_rfl) rfl) ?_
  rintro ⟨l, p⟩ hx
  refine ⟨Le rfl, fun w0 S0 H Z hH => ?_⟩
  try simp only [] at hx
  refine cseq ?_
  refine creg ?_
  refine e1 (av := .bp 0 0) (sbox rfl rfl) ?_
  refine o1 (asn rfl) ?_
  refine o1 (asn rfl) ?_
  refine onil ?_
  refine xthn ?_
  refine cseq ?_
  refine cseq ?_
  refine creg ?_
  refine o1 (mv rfl) ?_
  refine ce c_impl_GoodConfig _ [] [] (.c rfl (.c (.e rfl)) (.n)) (by first | trivial | assumption | omega | (simp only []; omega) | (refine ?_; omega) | (constructor <;> omega) | (refine ⟨?_, ?_⟩ <;> (first | assumption | omega | (simp; omega)))) (by decide) (by decide) (.n) rfl (.inl rfl) ?_ (.inl rfl)
  refine o1 (unot rfl) ?_
  refine o1 (mv rfl) ?_
  refine ocase (t := 10) rfl (fun c1 => ?_) (fun c1 => ?_)
  · try simp only [q1, q2, q3, q4, q5, q6, q7, q8, q9, q10, q11, q12, q13, q14, q15, q16, q17] at c1
    refine os rfl ?_
    refine os rfl ?_
    refine os rfl ?_
    refine o1 (pickT rfl rfl) ?_
    refine onil ?_
    refine xthn ?_
    refine ccT rfl ?_
    refine cseq ?_
    refine creg ?_
    refine o1 (asn rfl) ?_
    refine o1 (asn rfl) ?_
    refine onil ?_
    refine xthn ?_
    refine cret ?_
    refine xthr ?_
    refine xwk (wno (t := 4) true 94 KRLSzSz rfl) ?_
    refine retg (bs := [.own 0, .c .b (cfgDel l p).2]) (ob' := [.arr true 94 KRLSzSz (cfgDel l p).1]) [1] rfl (.t rfl (.t rfl (.n))) (by decide) (hk hH rfl) (.c rfl (arq ?_) (.n)) (lc rfl (lc (cq ?_) rfl)) rfl
    all_goals first | rfl | (first | (simp_all [cfgDel]; done) | (simp [cfgDel, c1, c2, c4]; done) | (simp [cfgDel, c1, c2, c4]; rfl))
  · try simp only [q1, q2, q3, q4, q5, q6, q7, q8, q9, q10, q11, q12, q13, q14, q15, q16, q17] at c1
    refine og (ldb rfl rfl rfl ti40) ?_
    refine ce c_impl_areWords _ [] [] (.c rfl (.c (.e rfl)) (.n)) (by first | trivial | assumption | omega | (simp only []; omega) | (refine ?_; omega) | (constructor <;> omega) | (refine ⟨?_, ?_⟩ <;> (first | assumption | omega | (simp; omega)))) (by decide) (by decide) (.n) rfl (.inl rfl) ?_ (wgd rfl rfl rfl)
    refine og (unot rfl) ?_
    refine o1 (pickF rfl rfl) ?_
    refine onil ?_
    refine xthn ?_
    refine ccond rfl (fun c2 => ?_) (fun c2 => ?_)
    · try simp only [q1, q2, q3, q4, q5, q6, q7, q8, q9, q10, q11, q12, q13, q14, q15, q16, q17] at c2
      refine cseq ?_
      refine creg ?_
      refine o1 (asn rfl) ?_
      refine o1 (asn rfl) ?_
      refine onil ?_
      refine xthn ?_
      refine cret ?_
      refine xthr ?_
      refine xwk (wnorm (.c (o := .box _ _) rfl (.n)) rfl) ?_
      refine xwk (wno (t := 4) true 94 KRLSzSz rfl) ?_
      refine retg (bs := [.own 0, .c .b (cfgDel l p).2]) (ob' := [.arr true 94 KRLSzSz (cfgDel l p).1]) [1] rfl (.t rfl (.t rfl (.n))) (by decide) (hk hH rfl) (.c rfl (arq ?_) (.n)) (lc rfl (lc (cq ?_) rfl)) rfl
      all_goals first | rfl | (first | (simp_all [cfgDel]; done) | (simp [cfgDel, c1, c2, c4]; done) | (simp [cfgDel, c1, c2, c4]; rfl))
    · try simp only [q1, q2, q3, q4, q5, q6, q7, q8, q9, q10, q11, q12, q13, q14, q15, q16, q17] at c2
      refine cskip ?_
      refine xthn ?_
      refine cseq ?_
      refine creg ?_
      refine o1 (mv rfl) ?_
      refine ce c_impl_ownConfig _ [] [] (.c rfl (.c (.e rfl)) (.n)) (by exact ⟨by have := good_len c1; omega, fun x hx2 => by have := (path_len (good_mem c1 hx2).1).2; omega⟩) (by decide) (by decide) (.n) rfl (.inl rfl) ?_ (.inl rfl)
      refine owk (wsl (t := 16) (.own 1) rfl rfl) ?_
      refine owk (wnorm (.c (o := .box _ _) rfl (.c (o := .arr _ _ _ _) rfl (.n))) rfl) ?_
      refine o1 (mkf (.c rfl .n)) ?_
      refine ce c_slices_DeleteFunc_impl_Leaf_impl_Leaf_DeleteAt (_, _) [1] [0] (.c rfl (.c (.e rfl)) (.c rfl (.f (.c (.b (k := 0) (by decide) rfl rfl rfl (.c (.e rfl) (.n))) (.n))) (.n))) (by have := good_len c1; omega) (by decide) (by decide) (.c rfl rfl (.n)) rfl (.inr ⟨rfl, by simp [Ob.free]⟩) ?_ (.inl rfl)
      refine owk (wsl (t := 18) (.own 2) rfl rfl) ?_
      refine o1 (asn rfl) ?_
      refine onil ?_
      refine xthn ?_
      refine cseq ?_
      refine cseq ?_
      refine creg ?_
      refine o1 (mv rfl) ?_
      refine ofacto (k := 2) rfl fun hl1 => ?_
      refine o1 (leno rfl rfl li26) ?_
      refine o1 (mv rfl) ?_
      refine ofact (t := 21) rfl fun hl2 => ?_
      refine o1 (lenl rfl li26) ?_
      refine o1 (ibin rfl rfl rfl) ?_
      refine onil ?_
      refine xthn ?_
      refine ccond rfl (fun c3 => ?_) (fun c3 => ?_)
      · try simp only [q1, q2, q3, q4, q5, q6, q7, q8, q9, q10, q11, q12, q13, q14, q15, q16, q17] at c3
        have c4 : (delIn l p).length = l.length := by unfold delIn; omega
        refine cseq ?_
        refine creg ?_
        refine o1 (asn rfl) ?_
        refine o1 (asn rfl) ?_
        refine onil ?_
        refine xthn ?_
        refine cret ?_
        refine xthr ?_
        refine xwk (wno (t := 4) true 94 KRLSzSz rfl) ?_
        refine retg (bs := [.own 0, .c .b (cfgDel l p).2]) (ob' := [.arr true 94 KRLSzSz (cfgDel l p).1]) [3] rfl (.t rfl (.t rfl (.n))) (by decide) (hk hH rfl) (.c rfl (arq ?_) (.n)) (lc rfl (lc (cq ?_) rfl)) rfl
        all_goals first | rfl | (first | (simp_all [cfgDel]; done) | (simp [cfgDel, c1, c2, c4]; done) | (simp [cfgDel, c1, c2, c4]; rfl))
      · try simp only [q1, q2, q3, q4, q5, q6, q7, q8, q9, q10, q11, q12, q13, q14, q15, q16, q17] at c3
        have c4 : ¬ (delIn l p).length = l.length := by unfold delIn; omega
        refine cskip ?_
        refine xthn ?_
        refine cseq ?_
        refine creg ?_
        refine o1 (mv rfl) ?_
        refine o1 (asn rfl) ?_
        refine o1 (asn rfl) ?_
        refine onil ?_
        refine xthn ?_
        refine cret ?_
        refine retg (bs := [.own 0, .c .b (cfgDel l p).2]) (ob' := [.arr true 94 KRLSzSz (cfgDel l p).1]) [2] rfl (.t rfl (.t rfl (.n))) (by decide) (hk hH rfl) (.c rfl (arq ?_) (.n)) (lc rfl (lc (cq ?_) rfl)) rfl
        all_goals first | rfl | (first | (simp_all [cfgDel]; done) | (simp [cfgDel, c1, c2, c4]; done) | (simp [cfgDel, c1, c2, c4]; rfl))

end Go.Proofs.YtifpekpmnlcmoaaE
