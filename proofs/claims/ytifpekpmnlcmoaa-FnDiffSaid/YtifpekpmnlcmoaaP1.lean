import Derived.Test.YtifpekpmnlcmoaaProg
import Derived.Test.YtifpekpmnlcmoaaE33
import Derived.Test.YtifpekpmnlcmoaaC3
set_option linter.unusedVariables false
set_option linter.unusedSimpArgs false
set_option maxRecDepth 100000
namespace Go.Proofs.YtifpekpmnlcmoaaE
open Go Go.RowKit Go.Shelf Go.Proofs

/-- The plain law: what is told as the difference leads from one to the other. -/
theorem sorted_eq {α : Type} {R : α → α → Prop} (irr : ∀ x, ¬ R x x) (asy : ∀ x y, R x y → ¬ R y x) : ∀ {l1 l2 : List α}, l1.Pairwise R → l2.Pairwise R → (∀ x, x ∈ l1 ↔ x ∈ l2) → l1 = l2
  | [], [], _, _, _ => rfl
  | [], y :: _, _, _, h => by have := (h y).2 List.mem_cons_self; simp at this
  | x :: _, [], _, _, h => by have := (h x).1 List.mem_cons_self; simp at this
  | x :: t1, y :: t2, h1, h2, h => by
    rw [List.pairwise_cons] at h1 h2
    have e : x = y := by
      rcases List.mem_cons.1 ((h x).1 List.mem_cons_self) with e | hx
      · exact e
      · rcases List.mem_cons.1 ((h y).2 List.mem_cons_self) with e | hy
        · exact e.symm
        · exact absurd (h1.1 y hy) (asy _ _ (h2.1 x hx))
    subst e
    refine congrArg _ (sorted_eq irr asy h1.2 h2.2 (fun z => ⟨fun hz => ?_, fun hz => ?_⟩))
    · rcases List.mem_cons.1 ((h z).1 (List.mem_cons_of_mem _ hz)) with e | h'
      · subst e; exact absurd (h1.1 z hz) (irr z)
      · exact h'
    · rcases List.mem_cons.1 ((h z).2 (List.mem_cons_of_mem _ hz)) with e | h'
      · subst e; exact absurd (h2.1 z hz) (irr z)
      · exact h'
theorem less_asym {a b : StrS} (h : less a b = true) : ¬ less b a = true := fun h2 => by have := less_trans _ _ _ h h2; rw [less_irr] at this; cases this
theorem beg_less : ∀ (a b : StrS), beg a b = true → a = b ∨ less a b = true
  | [], [], _ => .inl rfl
  | [], _ :: _, _ => .inr (by simp [less])
  | _ :: _, [], h => by simp [beg] at h
  | x :: a, y :: b, h => by
    simp only [beg, Bool.and_eq_true, decide_eq_true_eq] at h
    rcases beg_less a b h.2 with e | e
    · exact .inl (by rw [e, show x = y from Prod.ext h.1 rfl])
    · exact .inr (by rw [less, if_pos h.1]; exact e)
theorem word_ne {s : List UInt8} (h : word s = true) : s ≠ [] := by intro e; subst e; have := (word_len h).1; simp at this
/-- Paths told apart. -/
abbrev Ls (x y : KRLSzSz.den) : Prop := less x.1 y.1 = true
theorem Ls_irr (x : KRLSzSz.den) : ¬ Ls x x := fun h => by simp only [Ls, less_irr] at h; cases h
theorem good_ls {l : Leafs} (h : good l = true) : l.Pairwise Ls := (good_pw h).imp (fun h => h.1)
theorem hasV_mem : ∀ {l : Leafs} {x : KRLSzSz.den}, l.Pairwise Ls → x ∈ l → hasV l x.1 = x.2.1
  | y :: r, x, hp, hx => by
    rw [List.pairwise_cons] at hp
    rcases List.mem_cons.1 hx with rfl | hx
    · rw [hasV, if_pos rfl]
    · have : ¬ y.1 = x.1 := fun e => by have := hp.1 x hx; simp only [Ls, e, less_irr] at this; cases this
      rw [hasV, if_neg this]; exact hasV_mem hp.2 hx
theorem hasV_ex : ∀ {l : Leafs} {p : StrS}, hasV l p ≠ [] → ∃ x ∈ l, x.1 = p ∧ x.2.1 = hasV l p
  | [], p, h => absurd rfl h
  | y :: r, p, h => by
    rw [hasV] at h ⊢
    by_cases e : y.1 = p
    · rw [if_pos e]; exact ⟨y, List.mem_cons_self, e, rfl⟩
    · rw [if_neg e] at h ⊢
      obtain ⟨x, hx, h1, h2⟩ := hasV_ex h
      exact ⟨x, List.mem_cons_of_mem _ hx, h1, h2⟩
theorem hasV_fidx : ∀ (l : Leafs) (p : StrS) (n : Int), 0 ≤ n → (fidx (fun y : KRLSzSz.den => decide (y.1 = p)) l n < 0 ∧ hasV l p = [] ∨ n ≤ fidx (fun y : KRLSzSz.den => decide (y.1 = p)) l n ∧ hasV l p = (ix KRLSzSz.z l (fidx (fun y : KRLSzSz.den => decide (y.1 = p)) l n - n)).2.1)
  | [], p, n, _ => .inl ⟨by simp [fidx], rfl⟩
  | y :: r, p, n, hn => by
    rw [fidx, hasV]
    by_cases e : y.1 = p
    · rw [if_pos (by simpa using e), if_pos e]
      exact .inr ⟨Int.le_refl _, by rw [Int.sub_self]; rfl⟩
    · rw [if_neg (by simpa using e), if_neg e]
      rcases hasV_fidx r p (n + 1) (by omega) with h | ⟨h1, h2⟩
      · exact .inl h
      · refine .inr ⟨by omega, ?_⟩
        rw [h2]
        generalize fidx (fun y : KRLSzSz.den => decide (y.1 = p)) r (n + 1) = q at h1
        have : (q - n).toNat = (q - (n + 1)).toNat + 1 := by omega
        simp only [ix, this, List.getD_cons_succ]
theorem find_hasV (l : Leafs) (p : StrS) : (findI l p < 0 ∧ hasV l p = []) ∨ (0 ≤ findI l p ∧ hasV l p = (ix KRLSzSz.z l (findI l p)).2.1) := by
  have := hasV_fidx l p 0 (Int.le_refl _)
  rw [Int.sub_zero] at this
  exact this
theorem hasV_neg {l : Leafs} (h : good l = true) (p : StrS) : hasV l p = [] ↔ findI l p < 0 := by
  rcases find_hasV l p with ⟨h1, h2⟩ | ⟨h1, h2⟩
  · exact ⟨fun _ => h1, fun _ => h2⟩
  · refine ⟨fun e => ?_, fun e => by omega⟩
    exfalso
    have hl := findI_lt l p (by omega)
    have hm := (good_mem h (ix_mem (z := KRLSzSz.z) (xs := l) (i := (findI l p).toNat) (by omega))).2
    rw [show (((findI l p).toNat : Nat) : Int) = findI l p by omega, ← h2, e] at hm
    exact word_ne hm rfl
theorem filter_congr' {α : Type} {p q : α → Bool} {l : List α} (h : ∀ x ∈ l, p x = q x) : l.filter p = l.filter q := List.filter_congr h
theorem diff_eq {a b : Leafs} (ha : good a = true) (hb : good b = true) : diffI a b = delS b a ++ setS a b := by
  unfold diffI delC setC delS setS
  have e1 : a.filter (isDel b) = a.filter (fun x => decide (hasV b x.1 = [])) := List.filter_congr (fun x _ => by
    rw [isDel]; exact decide_eq_decide.2 (hasV_neg hb x.1).symm)
  have e2 : b.filter (isSet a) = b.filter (fun x => !decide (hasV a x.1 = x.2.1)) := List.filter_congr (fun x hx => by
    have hw := word_ne (good_mem hb hx).2
    rcases find_hasV a x.1 with ⟨h1, h2⟩ | ⟨h1, h2⟩
    · rw [isSet_1 a x h1, h2, decide_eq_false (fun e => hw e.symm)]; rfl
    · rw [isSet, decide_eq_false (by omega), Bool.false_or, h2])
  rw [e1, e2]
theorem cfgDiff_eq (a b : Leafs) : cfgDiff a b = (if good a = true ∧ good b = true then delS b a ++ setS a b else [], decide (good a = true ∧ good b = true)) := by
  unfold cfgDiff
  by_cases h : good a = true ∧ good b = true
  · rw [if_pos h, if_pos h, diff_eq h.1 h.2, decide_eq_true h]
  · rw [if_neg h, if_neg h, decide_eq_false h]
theorem doC_app : ∀ (c1 c2 : List KROLSzSz.den) (l l2 : Leafs), doC l c1 = (l2, true) → doC l (c1 ++ c2) = doC l2 c2
  | [], c2, l, l2, h => by simp only [doC, Prod.mk.injEq, and_true] at h; subst h; rfl
  | x :: c1, c2, l, l2, h => by
    rw [doC] at h
    split at h
    · rename_i hs
      rw [List.cons_append, doC, if_pos hs]; exact doC_app c1 c2 _ _ h
    · simp at h
theorem good_sub {l m : Leafs} (h : good l = true) (hs : m.Sublist l) : good m = true :=
  good_of ((good_pw h).sublist hs) (fun x hx => good_mem h (hs.subset hx)) (Nat.le_trans hs.length_le (good_len h))
/-- Good by its paths. -/
theorem good_paths {b m : Leafs} (h : good b = true) (hs : (m.map (·.1)).Sublist (b.map (·.1))) (hw : ∀ x ∈ m, word x.2.1 = true) : good m = true := by
  have hp : (b.map (·.1)).Pairwise (fun p q => less p q = true ∧ beg p q = false) := by rw [List.pairwise_map]; exact good_pw h
  have hm := hp.sublist hs
  rw [List.pairwise_map] at hm
  refine good_of hm (fun x hx => ⟨?_, hw x hx⟩) ?_
  · obtain ⟨y, hy, e⟩ := List.mem_map.1 (hs.subset (List.mem_map_of_mem (f := (·.1)) hx))
    rw [← e]; exact (good_mem h hy).1
  · have := hs.length_le
    simp only [List.length_map] at this
    exact Nat.le_trans this (good_len h)
theorem delIn_one {p : Leafs} {x : KRLSzSz.den} {r : Leafs} (h : (p ++ x :: r).Pairwise Lt) : delIn (p ++ x :: r) x.1 = p ++ r := by
  rw [List.pairwise_append] at h
  obtain ⟨_, h2, h3⟩ := h
  rw [List.pairwise_cons] at h2
  have e1 : p.filter (fun y => !beg x.1 y.1) = p := List.filter_eq_self.2 (fun y hy => by
    have := (h3 y hy x List.mem_cons_self).1
    cases hb : beg x.1 y.1 with
    | false => rfl
    | true =>
      rcases beg_less _ _ hb with e | e
      · rw [e, less_irr] at this; cases this
      · exact absurd this (less_asym e))
  have e2 : r.filter (fun y => !beg x.1 y.1) = r := List.filter_eq_self.2 (fun y hy => by rw [(h2.1 y hy).2]; rfl)
  have e3 : beg x.1 x.1 = true := by rw [beg_eq]; simp
  rw [delIn, List.filter_append, List.filter_cons, e1, e2, e3]; rfl
theorem do_del (b : Leafs) : ∀ (r p : Leafs), good (p ++ r) = true → doC (p ++ r) (delS b r) = (p ++ r.filter (fun x => !decide (hasV b x.1 = [])), true)
  | [], p, _ => by simp [delS, doC]
  | x :: r, p, h => by
    by_cases hx : hasV b x.1 = []
    · have e1 : delS b (x :: r) = (false, x.1, [], ()) :: delS b r := by simp [delS, hx]
      have e2 : delIn (p ++ x :: r) x.1 = p ++ r := delIn_one (good_pw h)
      have hg : good (p ++ r) = true := good_sub h ((List.sublist_cons_self x r).append_left p)
      have e3 : step1 (p ++ x :: r) (false, x.1, [], ()) = (p ++ r, true) := by
        rw [step1, if_neg (by simp), if_pos rfl, cfgDel, if_pos ⟨h, (good_mem h (x := x) (by simp)).1, by show (delIn _ x.1).length ≠ _; rw [e2]; simp⟩]
        show (delIn _ x.1, true) = _; rw [e2]
      rw [e1, doC, e3, if_pos rfl, do_del b r p hg, List.filter_cons, if_neg (by simp [hx])]
    · have e1 : delS b (x :: r) = delS b r := by simp [delS, hx]
      have := do_del b r (p ++ [x]) (by simpa using h)
      rw [List.append_assoc, List.singleton_append] at this
      rw [e1, this, List.filter_cons, if_pos (by simp [hx])]; simp
/-- What is left of the old values. -/
def oldV (a l : Leafs) : Leafs := (l.filter fun y => !decide (hasV a y.1 = [])).map fun y => (y.1, hasV a y.1, ())
theorem oldV_paths (a l : Leafs) : ((oldV a l).map (·.1)).Sublist (l.map (·.1)) := by
  rw [oldV, List.map_map]
  exact (List.filter_sublist).map _
theorem oldV_word {a l : Leafs} (ha : good a = true) : ∀ x ∈ oldV a l, word x.2.1 = true := by
  intro x hx
  obtain ⟨y, hy, rfl⟩ := List.mem_map.1 hx
  have := (List.mem_filter.1 hy).2
  obtain ⟨z, hz, _, h2⟩ := hasV_ex (l := a) (p := y.1) (by simpa using this)
  rw [← h2]; exact (good_mem ha hz).2
theorem old_eq {a b : Leafs} (ha : good a = true) (hb : good b = true) : a.filter (fun x => !decide (hasV b x.1 = [])) = oldV a b := by
  refine sorted_eq (R := Ls) Ls_irr (fun x y h => less_asym h) ((good_ls ha).filter _) ?_ (fun z => ?_)
  · have := (List.pairwise_map (f := fun x : KRLSzSz.den => x.1) (R := fun p q => less p q = true)).2 (good_ls hb)
    have h2 := this.sublist (oldV_paths a b)
    rw [List.pairwise_map] at h2
    exact h2
  · constructor
    · intro hz
      obtain ⟨hz, h2⟩ := List.mem_filter.1 hz
      obtain ⟨y, hy, e1, _⟩ := hasV_ex (l := b) (p := z.1) (by simpa using h2)
      have e2 := hasV_mem (good_ls ha) hz
      refine List.mem_map.2 ⟨y, List.mem_filter.2 ⟨hy, ?_⟩, ?_⟩
      · rw [e1, e2]; simpa using word_ne (good_mem ha hz).2
      · show ((y.1, hasV a y.1, ()) : KRLSzSz.den) = z
        rw [e1, e2]
    · intro hz
      obtain ⟨y, hy, rfl⟩ := List.mem_map.1 hz
      obtain ⟨hy, h2⟩ := List.mem_filter.1 hy
      obtain ⟨z, hz, e1, e2⟩ := hasV_ex (l := a) (p := y.1) (by simpa using h2)
      have e3 : ((y.1, hasV a y.1, ()) : KRLSzSz.den) = z := by rw [← e1, hasV_mem (good_ls ha) hz]
      rw [e3]
      refine List.mem_filter.2 ⟨hz, ?_⟩
      rw [e1, hasV_mem (good_ls hb) hy]; simpa using word_ne (good_mem hb hy).2
theorem takeWhile_all {α : Type} {p : α → Bool} {l r : List α} (h : ∀ x ∈ l, p x = true) (hr : ∀ x ∈ r, p x = false) : (l ++ r).takeWhile p = l ∧ (l ++ r).dropWhile p = r := by
  induction l with
  | nil =>
    cases r with
    | nil => exact ⟨rfl, rfl⟩
    | cons y r => simp [List.takeWhile_cons, List.dropWhile_cons, hr y List.mem_cons_self]
  | cons x l ih =>
    have hx := h x List.mem_cons_self
    have := ih (fun y hy => h y (List.mem_cons_of_mem _ hy))
    simp [List.takeWhile_cons, List.dropWhile_cons, hx, this.1, this.2]
theorem setIn_one {p : Leafs} {x : KRLSzSz.den} {r : Leafs} {o : Leafs} (h : (p ++ x :: r).Pairwise Lt) (ho : ∀ y ∈ o, y.1 = x.1) : setIn (p ++ (o ++ r)) x.1 x.2.1 = p ++ x :: r := by
  rw [List.pairwise_append] at h
  obtain ⟨_, h2, h3⟩ := h
  rw [List.pairwise_cons] at h2
  have hp : ∀ y ∈ p, Lt y x := fun y hy => h3 y hy x List.mem_cons_self
  have nb : ∀ {u v : StrS}, less u v = true → beg v u = false := fun {u v} hu => by
    cases hb : beg v u with
    | false => rfl
    | true =>
      rcases beg_less _ _ hb with e | e
      · rw [e, less_irr] at hu; cases hu
      · exact absurd hu (less_asym e)
  have e1 : p.filter (fun y => !(beg y.1 x.1 || beg x.1 y.1)) = p := List.filter_eq_self.2 (fun y hy => by rw [(hp y hy).2, nb (hp y hy).1]; rfl)
  have e2 : r.filter (fun y => !(beg y.1 x.1 || beg x.1 y.1)) = r := List.filter_eq_self.2 (fun y hy => by rw [(h2.1 y hy).2, nb (h2.1 y hy).1]; rfl)
  have e3 : o.filter (fun y => !(beg y.1 x.1 || beg x.1 y.1)) = [] := List.filter_eq_nil_iff.2 (fun y hy => by
    have : beg x.1 x.1 = true := by rw [beg_eq]; simp
    rw [ho y hy, this]; simp)
  rw [setIn, List.filter_append, List.filter_append, e1, e2, e3, List.nil_append, put]
  obtain ⟨t1, t2⟩ := takeWhile_all (p := fun y : KRLSzSz.den => less y.1 x.1) (l := p) (r := r) (fun y hy => (hp y hy).1) (fun y hy => by
    cases hl : less y.1 x.1 with
    | false => rfl
    | true => exact absurd hl (less_asym (h2.1 y hy).1))
  rw [t1, t2]
theorem do_set {a : Leafs} (ha : good a = true) : ∀ (r p : Leafs), good (p ++ r) = true → doC (p ++ oldV a r) (setS a r) = (p ++ r, true)
  | [], p, _ => by simp [setS, oldV, doC]
  | x :: r, p, h => by
    have hx := good_mem h (x := x) (by simp)
    have hsub : ((p ++ oldV a (x :: r)).map (·.1)).Sublist ((p ++ x :: r).map (·.1)) := by
      rw [List.map_append, List.map_append]; exact (oldV_paths a (x :: r)).append_left _
    have hg : good (p ++ oldV a (x :: r)) = true := good_paths h hsub (fun y hy => by
      rcases List.mem_append.1 hy with hy | hy
      · exact (good_mem h (List.mem_append_left _ hy)).2
      · exact oldV_word ha y hy)
    have hsub2 : ((p ++ x :: oldV a r).map (·.1)).Sublist ((p ++ x :: r).map (·.1)) := by
      rw [List.map_append, List.map_append, List.map_cons, List.map_cons]; exact ((oldV_paths a r).cons_cons x.1).append_left _
    have hg2 : good (p ++ x :: oldV a r) = true := good_paths h hsub2 (fun y hy => by
      rcases List.mem_append.1 hy with hy | hy
      · exact (good_mem h (List.mem_append_left _ hy)).2
      · rcases List.mem_cons.1 hy with rfl | hy
        · exact hx.2
        · exact oldV_word ha y hy)
    have ih := do_set ha r (p ++ [x]) (by simpa using h)
    rw [List.append_assoc, List.append_assoc, List.singleton_append, List.singleton_append] at ih
    by_cases hv : hasV a x.1 = x.2.1
    · have e1 : setS a (x :: r) = setS a r := by simp [setS, hv]
      have e2 : oldV a (x :: r) = x :: oldV a r := by
        rw [oldV, List.filter_cons, if_pos (by rw [hv]; simpa using word_ne hx.2), List.map_cons, hv]; rfl
      rw [e1, e2]; exact ih
    · have e1 : setS a (x :: r) = (true, x.1, x.2.1, ()) :: setS a r := by simp [setS, hv]
      obtain ⟨o, ho, e2⟩ : ∃ o : Leafs, (∀ y ∈ o, y.1 = x.1) ∧ oldV a (x :: r) = o ++ oldV a r := by
        by_cases hn : hasV a x.1 = []
        · exact ⟨[], by simp, by rw [oldV, List.filter_cons, if_neg (by simp [hn])]; rfl⟩
        · exact ⟨[(x.1, hasV a x.1, ())], by simp, by rw [oldV, List.filter_cons, if_pos (by simp [hn]), List.map_cons]; rfl⟩
      have e3 : setIn (p ++ oldV a (x :: r)) x.1 x.2.1 = p ++ x :: oldV a r := by rw [e2]; exact setIn_one (good_pw hg2) ho
      have e4 : step1 (p ++ oldV a (x :: r)) (true, x.1, x.2.1, ()) = (p ++ x :: oldV a r, true) := by
        rw [step1, if_pos rfl, cfgSet, if_pos ⟨hg, hx.1, hx.2, by show good (setIn _ x.1 x.2.1) = true; rw [e3]; exact hg2⟩]
        show (setIn _ x.1 x.2.1, true) = _; rw [e3]
      rw [e1, doC, e4, if_pos rfl]; exact ih
theorem diff_len {a b : Leafs} (ha : good a = true) (hb : good b = true) : (delS b a ++ setS a b).length ≤ 80 := by
  have h1 := delS_len (b := b) (l := a)
  have h2 := setS_len (b := a) (l := b)
  have := good_len ha; have := good_len hb
  rw [List.length_append]; omega
/-- The difference leads from one to the other. -/
theorem do_diff {a b : Leafs} (ha : good a = true) (hb : good b = true) : cfgDo a (delS b a ++ setS a b) = (b, true) := by
  rw [cfgDo, if_pos ⟨ha, diff_len ha hb⟩]
  have h1 := do_del b a [] ha
  rw [List.nil_append, List.nil_append, old_eq ha hb] at h1
  rw [doC_app _ _ _ _ h1]
  have := do_set ha b [] hb
  rwa [List.nil_append, List.nil_append] at this
theorem diff_nil {a b : Leafs} (ha : good a = true) (hb : good b = true) : (delS b a ++ setS a b = []) ↔ a = b := by
  constructor
  · intro e
    have := do_diff ha hb
    rw [e, cfgDo, if_pos ⟨ha, by simp⟩, doC] at this
    exact congrArg Prod.fst this
  · rintro rfl
    have e1 : delS a a = [] := by
      rw [delS, List.map_eq_nil_iff, List.filter_eq_nil_iff]
      intro x hx
      rw [hasV_mem (good_ls ha) hx]; simpa using word_ne (good_mem ha hx).2
    have e2 : setS a a = [] := by
      rw [setS, List.map_eq_nil_iff, List.filter_eq_nil_iff]
      intro x hx
      rw [hasV_mem (good_ls ha) hx]; simp
    rw [e1, e2]; rfl
theorem cfgDel_good {l : Leafs} {p : StrS} (h : (cfgDel l p).2 = true) : good (cfgDel l p).1 = true := by
  unfold cfgDel at h ⊢
  split at h
  · rename_i hc; rw [if_pos hc]; exact good_sub hc.1 (List.filter_sublist)
  · cases h
theorem step1_good {l : Leafs} {x : KROLSzSz.den} (h : (step1 l x).2 = true) : good (step1 l x).1 = true := by
  unfold step1 at h ⊢
  split
  · rename_i hc; rw [if_pos hc] at h; exact cfgSet_good h
  · rename_i hc; rw [if_neg hc] at h
    split
    · rename_i hd; rw [if_pos hd] at h; exact cfgDel_good h
    · rename_i hd; rw [if_neg hd] at h; cases h
theorem doC_good : ∀ (c : List KROLSzSz.den) (l : Leafs), good l = true → (doC l c).2 = true → good (doC l c).1 = true
  | [], l, h, _ => h
  | x :: c, l, h, h2 => by
    rw [doC] at h2 ⊢
    split
    · rename_i hs; rw [if_pos hs] at h2; exact doC_good c _ (step1_good hs) h2
    · rename_i hs; rw [if_neg hs] at h2; cases h2
theorem cfgDo_good {l : Leafs} {c : List KROLSzSz.den} (h : (cfgDo l c).2 = true) : good (cfgDo l c).1 = true := by
  unfold cfgDo at h ⊢
  split at h
  · rename_i hc; rw [if_pos hc]; exact doC_good c l hc.1 h
  · cases h

end Go.Proofs.YtifpekpmnlcmoaaE
