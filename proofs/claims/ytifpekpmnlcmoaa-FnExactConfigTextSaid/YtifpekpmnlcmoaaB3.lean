import Derived.Test.YtifpekpmnlcmoaaProg
import Derived.Test.YtifpekpmnlcmoaaE19
import Derived.Test.YtifpekpmnlcmoaaB2
import Derived.Test.YtifpekpmnlcmoaaB1
set_option linter.unusedVariables false
set_option maxRecDepth 100000
namespace Go.Proofs.YtifpekpmnlcmoaaE
open Go Go.RowKit Go.Shelf Go.Proofs

def chain : Leafs → Prop
  | x :: y :: r => (less x.1 y.1 = true ∧ beg x.1 y.1 = false) ∧ chain (y :: r)
  | _ => True
def Gd (op : StrS) (l : Leafs) : Prop := (∀ x ∈ l, (∃ w t, x.1 = op ++ w :: t) ∧ path x.1 = true ∧ word x.2.1 = true) ∧ chain l
theorem chain_tail {x : KRLSzSz.den} {r : Leafs} (h : chain (x :: r)) : chain r := by
  cases r with
  | nil => trivial
  | cons y r => exact h.2
theorem chain_drop : ∀ (n : Nat) (l : Leafs), chain l → chain (l.drop n)
  | 0, l, h => h
  | n + 1, [], h => trivial
  | n + 1, x :: r, h => chain_drop n r (chain_tail h)
theorem chain_take : ∀ (n : Nat) (l : Leafs), chain l → chain (l.take n)
  | 0, l, h => trivial
  | n + 1, [], h => trivial
  | n + 1, [x], h => by simp [chain]
  | 0 + 1, x :: y :: r, h => trivial
  | n + 1 + 1, x :: y :: r, h => ⟨h.1, chain_take (n + 1) (y :: r) h.2⟩
theorem Gd_drop {op : StrS} {l : Leafs} (n : Nat) (h : Gd op l) : Gd op (l.drop n) := ⟨fun x hx => h.1 x (List.mem_of_mem_drop hx), chain_drop n l h.2⟩
theorem less_app : ∀ (a b c : StrS), less (a ++ b) (a ++ c) = less b c
  | [], b, c => rfl
  | x :: a, b, c => by simp only [List.cons_append, less, if_true, less_app a b c]
theorem beg_app : ∀ (a b c : StrS), beg (a ++ b) (a ++ c) = beg b c
  | [], b, c => rfl
  | x :: a, b, c => by simp only [List.cons_append, beg, decide_true, Bool.true_and, beg_app a b c]
theorem grp_long {op : StrS} {w : KS.den} : ∀ (r : Leafs) (x : KRLSzSz.den) (n : Nat), chain (x :: r) → (∃ u t, x.1 = op ++ w :: u :: t) → (∀ y ∈ r.take n, ∃ t, y.1 = op ++ w :: t) → ∀ y ∈ r.take n, ∃ u t, y.1 = op ++ w :: u :: t
  | [], x, n, _, _, _ => by simp
  | y :: r, x, 0, _, _, _ => by simp
  | y :: r, x, n + 1, hc, ⟨u, t, hx⟩, hy => by
    obtain ⟨t', ht⟩ := hy y (by simp)
    have hy' : ∃ u t, y.1 = op ++ w :: u :: t := by
      cases t' with
      | nil =>
        have := hc.1.1
        rw [hx, ht, less_app] at this
        simp [less] at this
      | cons u' t' => exact ⟨u', t', ht⟩
    intro z hz
    rw [List.take_succ_cons] at hz
    rcases List.mem_cons.1 hz with rfl | hz
    · exact hy'
    · exact grp_long r y n hc.2 hy' (fun z hz => hy z (by rw [List.take_succ_cons]; exact List.mem_cons_of_mem _ hz)) z hz
theorem grp_one {op : StrS} {w : KS.den} {x : KRLSzSz.den} {r : Leafs} {n : Nat} (hc : chain (x :: r)) (hx : x.1 = op ++ [w]) (hy : ∀ y ∈ (x :: r).take n, ∃ t, y.1 = op ++ w :: t) (h1 : 1 ≤ n) (h2 : n ≤ (x :: r).length) : n = 1 := by
  rcases Nat.lt_or_ge n 2 with h | h
  · omega
  · cases r with
    | nil => simp at h2; omega
    | cons y r =>
      obtain ⟨t, ht⟩ := hy y (by
        obtain ⟨m, rfl⟩ : ∃ m, n = m + 2 := ⟨n - 2, by omega⟩
        simp)
      have := hc.1.2
      rw [hx, ht, beg_app] at this
      simp [beg] at this
/-- The words of a group, by place. -/
theorem grp_mem {op : StrS} {l : Leafs} {n : Nat} {w : KS.den} (hg : ∀ x ∈ l, ∃ w t, x.1 = op ++ w :: t) (hn : n ≤ l.length) (h : ∀ j, j < n → (ix KS.z (ix KRLSzSz.z l (j : Int)).1 (op.length : Int)).1 = w.1) : ∀ y ∈ l.take n, ∃ t, y.1 = op ++ w :: t := by
  intro y hy
  obtain ⟨j, hj⟩ := List.getElem?_of_mem hy
  have hjn : j < n := by have := (List.getElem?_eq_some_iff.1 hj).1; simp at this; omega
  rw [List.getElem?_take_of_lt hjn] at hj
  have e : ix KRLSzSz.z l (j : Int) = y := by simp [ix, List.getD_eq_getElem?_getD, hj]
  obtain ⟨w', t, hw⟩ := hg y (List.mem_of_getElem? hj)
  have := h j hjn
  rw [e, hw, ix_mid] at this
  exact ⟨t, by rw [hw, show w' = w from Prod.ext this rfl]⟩
theorem Gd_group {op : StrS} {l : Leafs} {n : Nat} {w : KS.den} (h : Gd op l) (hl : ∀ y ∈ l.take n, ∃ u t, y.1 = op ++ w :: u :: t) : Gd (op ++ [w]) (l.take n) :=
  ⟨fun x hx => ⟨by obtain ⟨u, t, e⟩ := hl x hx; exact ⟨u, t, by rw [e]; simp⟩, (h.1 x (List.mem_of_mem_take hx)).2⟩, chain_take n l h.2⟩
theorem other_of {op : StrS} {l : Leafs} {n : Nat} {w : KS.den} (hg : ∀ x ∈ l, ∃ w t, x.1 = op ++ w :: t) (h : l.length ≤ n ∨ (ix KS.z (ix KRLSzSz.z l (n : Int)).1 (op.length : Int)).1 ≠ w.1) : Other op w (l.drop n) := by
  cases hd : l.drop n with
  | nil => trivial
  | cons y r =>
    have hy : l[n]? = some y := by
      have := congrArg (fun q => q[0]?) hd
      simpa using this
    rcases h with h | h
    · rw [List.drop_eq_nil_of_le h] at hd; cases hd
    · have e : ix KRLSzSz.z l (n : Int) = y := by simp [ix, List.getD_eq_getElem?_getD, hy]
      obtain ⟨w', t, hw⟩ := hg y (List.mem_of_getElem? hy)
      rw [e, hw, ix_mid] at h
      exact ⟨w', t, hw, h⟩

theorem c_impl_write_rec : ∀ k : Nat, Fe Go.Proofs.Try.prog 60 (ι := Leafs × StrS × List UInt8) (fun | (l0, op, bs) => [.c (.l KRLSzSz) l0, .c (.i .i64) (op.length : Int), .bp 0 0]) (fun | (l0, op, bs) => [.bld 98 5 bs]) (fun | (l0, op, bs) => (op.length ≤ 4 ∧ Gd op l0 ∧ l0.length ≤ 30 ∧ bs.length + (tx op.length op l0).length ≤ 1048576) ∧ 5 ≤ op.length + k) (fun | (l0, op, bs) => (.tup [], [.bld 98 5 (bs ++ tx op.length op l0)])) := by
  intro k
  induction k with
  | zero => exact ⟨ent Go.Proofs.Try.func60 (by kernel_rfl) rfl, fun x hx => absurd hx (by obtain ⟨l0, op, bs⟩ := x; simp only [] at hx ⊢; omega)⟩
  | succ k ih =>
    refine fnE (n := 79) Go.Proofs.Try.func60 rfl rfl (ent Go.Proofs.Try.func60 (by kernel_rfl) rfl) ?_
    rintro ⟨l0, op, bs⟩ hx
    refine ⟨Le rfl, fun w0 S0 H Z hH => ?_⟩
    try simp only [] at hx
    refine cseq ?_
    refine creg ?_
    refine o (.inl rfl) (L rfl) (mv rfl) rfl ?_
    refine ocall c_strings_Repeat_blanks _ [] [] (by repeat (first | exact .n | refine .c rfl (.c (.e rfl)) ?_ | refine .c rfl (.c (.o (by decide) rfl)) ?_ | refine .c rfl (.c .n) ?_  | refine .c rfl (.g (by repeat (first | exact .n | refine .c (.e rfl) ?_ | refine .c (.o (by decide) rfl) ?_ | refine .c .n ?_))) ?_)) (by omega) (.inl rfl) (by decide) (by decide) (by repeat (first | exact .n | refine .c rfl rfl ?_)) (Le rfl) (.inl rfl) (L rfl) ?_
    refine o (.inl rfl) (L rfl) (asn rfl) rfl ?_
    refine onil ?_
    refine xthn ?_
    refine cblock ?_
    refine cloop (ι := Leafs × List UInt8) (fun | (l, s) => [(0, .c (.l KRLSzSz) l), (1, .c (.i .i64) (op.length : Int)), (2, .bp 0 0), (6, .c .s (blanks op.length))]) (fun | (l, s) => [.bld 98 5 s]) (fun | (l, s) => Gd op l ∧ l.length ≤ 30 ∧ bs ++ tx op.length op l0 = s ++ tx op.length op l ∧ s.length + (tx op.length op l).length ≤ 1048576) (fun | (l, s) => l.length) (l0, bs) (by exact ⟨hx.1.2.1, hx.1.2.2.1, rfl, hx.1.2.2.2⟩) (weak [0] (by decide) (h1 hH) (by repeat (first | exact .n | refine .c rfl (by first | rfl) ?_)) (by repeat (first | exact .n | refine .c rfl (by first | rfl | (simp; done)) ?_))) ?_
    rintro ⟨l, s⟩ i0
    try simp only [] at i0
    refine cseq ?_
    refine cseq ?_
    refine creg ?_
    refine o (.inl rfl) (L rfl) (mv rfl) rfl ?_
    first | refine ofact (t := 11) rfl fun hl1 => ?_ | refine ofacts (t := 11) rfl fun hl1 => ?_ | skip
    first | refine o (.inl rfl) (L rfl) (lenl rfl li26) rfl ?_ | refine o (.inl rfl) (L rfl) (leno rfl rfl li26) rfl ?_ | refine o (.inl rfl) (L rfl) (lennl rfl li26) rfl ?_
    refine o (.inl rfl) (L rfl) (ibin rfl rfl rfl) rfl ?_
    refine onil ?_
    refine xthn ?_
    refine ccond rfl (fun c1 => ?_) (fun c1 => ?_)
    · repeat (first | simp only [decide_eq_true_eq] at c1 | simp only [decide_eq_false_iff_not] at c1 | simp only [beq_iff_eq] at c1 | simp only [bne_iff_ne] at c1 | simp only [Bool.not_eq_true'] at c1 | simp only [Bool.not_eq_false'] at c1 | simp only [beq_eq_false_iff_ne] at c1 | simp only [bne_eq_false_iff_eq] at c1 | simp only [Bool.not_not] at c1 | simp only [ne_eq] at c1 | simp only [Int.not_lt] at c1 | simp only [Int.not_le] at c1 | simp only [gt_iff_lt] at c1 | simp only [ge_iff_le] at c1 | simp only [Bool.not_eq_true] at c1 | simp only [Bool.not_eq_false] at c1 | simp only [Decidable.not_not] at c1)
      obtain ⟨x, r, rfl⟩ : ∃ x r, l = x :: r := (match l, c1 with | [], c1 => by simp at c1 | x :: r, _ => ⟨x, r, rfl⟩)
      obtain ⟨⟨w, t, hx1⟩, gp⟩ := i0.1.1 x List.mem_cons_self
      have hdl : op.length < x.1.length := by rw [hx1]; simp
      have hw : ix KS.z x.1 (op.length : Int) = w := by rw [hx1]; exact ix_mid
      have wl := word_len gp.2
      have pw := path_w gp.1 (op.length : Int)
      have pl := path_len gp.1
      refine cskip ?_
      refine xthn ?_
      refine cblock ?_
      refine cseq ?_
      refine creg ?_
      refine o (.inl rfl) (L rfl) (mv rfl) rfl ?_
      first | refine o (.inl rfl) (L rfl) (ixl rfl rfl li26 rfl (by first | omega | (show (op.length : Int) < (x.1.length : Int); omega) | (show (op.length : Int) < ((ix KRLSzSz.z (x :: r) (n : Int)).1.length : Int); omega) | (simp [blanks_len]; omega) | (show (_ : Nat) + x.2.1.length ≤ _; simp [blanks_len]; omega)) (by first | omega | (show (op.length : Int) < (x.1.length : Int); omega) | (show (op.length : Int) < ((ix KRLSzSz.z (x :: r) (n : Int)).1.length : Int); omega) | (simp [blanks_len]; omega) | (show (_ : Nat) + x.2.1.length ≤ _; simp [blanks_len]; omega))) rfl ?_ | refine o (.inl rfl) (L rfl) (ixo rfl rfl rfl li26 rfl (by first | omega | (show (op.length : Int) < (x.1.length : Int); omega) | (show (op.length : Int) < ((ix KRLSzSz.z (x :: r) (n : Int)).1.length : Int); omega) | (simp [blanks_len]; omega) | (show (_ : Nat) + x.2.1.length ≤ _; simp [blanks_len]; omega)) (by first | omega | (show (op.length : Int) < (x.1.length : Int); omega) | (show (op.length : Int) < ((ix KRLSzSz.z (x :: r) (n : Int)).1.length : Int); omega) | (simp [blanks_len]; omega) | (show (_ : Nat) + x.2.1.length ≤ _; simp [blanks_len]; omega))) rfl ?_
      first | refine o (.inl rfl) (L rfl) (fab rfl fi94_0) rfl ?_ | refine o (.inl rfl) (L rfl) (fae rfl fi94_0) rfl ?_ | refine o (.inl rfl) (L rfl) (far rfl fi94_0 (Le rfl)) rfl ?_
      first | refine o (.inl rfl) (L rfl) (ldb rfl rfl rfl ti40) rfl ?_ | refine o (.inl rfl) (L rfl) (ldr rfl ti40) rfl ?_ | refine o (.inl rfl) (L rfl) (lde rfl rfl (by first | omega | (show (op.length : Int) < (x.1.length : Int); omega) | (show (op.length : Int) < ((ix KRLSzSz.z (x :: r) (n : Int)).1.length : Int); omega) | (simp [blanks_len]; omega) | (show (_ : Nat) + x.2.1.length ≤ _; simp [blanks_len]; omega)) (L rfl) rfl ti40) rfl ?_
      refine o (.inl rfl) (L rfl) (mv rfl) rfl ?_
      first | refine o (.inl rfl) (L rfl) (ixl rfl rfl li40 rfl (by first | omega | (show (op.length : Int) < (x.1.length : Int); omega) | (show (op.length : Int) < ((ix KRLSzSz.z (x :: r) (n : Int)).1.length : Int); omega) | (simp [blanks_len]; omega) | (show (_ : Nat) + x.2.1.length ≤ _; simp [blanks_len]; omega)) (by first | omega | (show (op.length : Int) < (x.1.length : Int); omega) | (show (op.length : Int) < ((ix KRLSzSz.z (x :: r) (n : Int)).1.length : Int); omega) | (simp [blanks_len]; omega) | (show (_ : Nat) + x.2.1.length ≤ _; simp [blanks_len]; omega))) rfl ?_ | refine o (.inl rfl) (L rfl) (ixo rfl rfl rfl li40 rfl (by first | omega | (show (op.length : Int) < (x.1.length : Int); omega) | (show (op.length : Int) < ((ix KRLSzSz.z (x :: r) (n : Int)).1.length : Int); omega) | (simp [blanks_len]; omega) | (show (_ : Nat) + x.2.1.length ≤ _; simp [blanks_len]; omega)) (by first | omega | (show (op.length : Int) < (x.1.length : Int); omega) | (show (op.length : Int) < ((ix KRLSzSz.z (x :: r) (n : Int)).1.length : Int); omega) | (simp [blanks_len]; omega) | (show (_ : Nat) + x.2.1.length ≤ _; simp [blanks_len]; omega))) rfl ?_
      first | refine o (.inl rfl) (L rfl) (ldb rfl rfl rfl ti9) rfl ?_ | refine o (.inl rfl) (L rfl) (ldr rfl ti9) rfl ?_ | refine o (.inl rfl) (L rfl) (lde rfl rfl (by first | omega | (show (op.length : Int) < (x.1.length : Int); omega) | (show (op.length : Int) < ((ix KRLSzSz.z (x :: r) (n : Int)).1.length : Int); omega) | (simp [blanks_len]; omega) | (show (_ : Nat) + x.2.1.length ≤ _; simp [blanks_len]; omega)) (L rfl) rfl ti9) rfl ?_
      refine o (.inl rfl) (L rfl) (asn rfl) rfl ?_
      refine onil ?_
      refine xthn ?_
      refine cseq ?_
      refine creg ?_
      refine o (.inl rfl) (L rfl) (asn rfl) rfl ?_
      refine onil ?_
      refine xthn ?_
      refine cmid (ι := Nat) (fun | n => [(0, .c (.l KRLSzSz) (x :: r)), (1, .c (.i .i64) (op.length : Int)), (2, .bp 0 0), (6, .c .s (blanks op.length)), (7, .c .s (ix KS.z x.1 (op.length : Int)).1), (8, .c (.i .i64) (n : Int))]) (fun | n => [.bld 98 5 s]) (fun | n => (1 ≤ n ∧ n ≤ (x :: r).length ∧ ∀ j, j < n → (ix KS.z (ix KRLSzSz.z (x :: r) (j : Int)).1 (op.length : Int)).1 = (ix KS.z x.1 (op.length : Int)).1) ∧ ((x :: r).length ≤ n ∨ (ix KS.z (ix KRLSzSz.z (x :: r) (n : Int)).1 (op.length : Int)).1 ≠ (ix KS.z x.1 (op.length : Int)).1)) ?_ ?_
      ·
        refine cblock ?_
        refine cloop (ι := Nat) (fun | n => [(0, .c (.l KRLSzSz) (x :: r)), (1, .c (.i .i64) (op.length : Int)), (2, .bp 0 0), (6, .c .s (blanks op.length)), (7, .c .s (ix KS.z x.1 (op.length : Int)).1), (8, .c (.i .i64) (n : Int))]) (fun | n => [.bld 98 5 s]) (fun | n => 1 ≤ n ∧ n ≤ (x :: r).length ∧ ∀ j, j < n → (ix KS.z (ix KRLSzSz.z (x :: r) (j : Int)).1 (op.length : Int)).1 = (ix KS.z x.1 (op.length : Int)).1) (fun | n => (x :: r).length - n) 1 (by refine ⟨by omega, by simp, fun j hj => ?_⟩; have e : j = 0 := (by omega); subst e; rfl) (weak [0] (by decide) (h1 hH) (by repeat (first | exact .n | refine .c rfl (by first | rfl) ?_)) (by repeat (first | exact .n | refine .c rfl (by first | rfl | (simp; done)) ?_))) ?_
        rintro n i1
        try simp only [] at i1
        refine cseq ?_
        refine cseq ?_
        refine creg ?_
        refine o (.inl rfl) (L rfl) (mv rfl) rfl ?_
        refine o (.inl rfl) (L rfl) (mv rfl) rfl ?_
        first | refine ofact (t := 22) rfl fun hl2 => ?_ | refine ofacts (t := 22) rfl fun hl2 => ?_ | skip
        first | refine o (.inl rfl) (L rfl) (lenl rfl li26) rfl ?_ | refine o (.inl rfl) (L rfl) (leno rfl rfl li26) rfl ?_ | refine o (.inl rfl) (L rfl) (lennl rfl li26) rfl ?_
        refine o (.inl rfl) (L rfl) (ibin rfl rfl rfl) rfl ?_
        refine o (.inl rfl) (L rfl) (mv rfl) rfl ?_
        refine ocase (t := 25) rfl (fun c2 => ?_) (fun c2 => ?_)
        · repeat (first | simp only [decide_eq_true_eq] at c2 | simp only [decide_eq_false_iff_not] at c2 | simp only [beq_iff_eq] at c2 | simp only [bne_iff_ne] at c2 | simp only [Bool.not_eq_true'] at c2 | simp only [Bool.not_eq_false'] at c2 | simp only [beq_eq_false_iff_ne] at c2 | simp only [bne_eq_false_iff_eq] at c2 | simp only [Bool.not_not] at c2 | simp only [ne_eq] at c2 | simp only [Int.not_lt] at c2 | simp only [Int.not_le] at c2 | simp only [gt_iff_lt] at c2 | simp only [ge_iff_le] at c2 | simp only [Bool.not_eq_true] at c2 | simp only [Bool.not_eq_false] at c2 | simp only [Decidable.not_not] at c2)
          obtain ⟨⟨w2, t2, hx2⟩, _⟩ := i0.1.1 _ (ix_mem (z := KRLSzSz.z) (xs := x :: r) (i := n) (by omega))
          have hn : op.length < (ix KRLSzSz.z (x :: r) (n : Int)).1.length := by rw [hx2]; simp
          refine o (.inr ⟨_, _, _, rfl, rfl, rfl⟩) (L rfl) (mv rfl) rfl ?_
          refine o (.inr ⟨_, _, _, rfl, rfl, rfl⟩) (L rfl) (mv rfl) rfl ?_
          first | refine o (.inr ⟨_, _, _, rfl, rfl, rfl⟩) (L rfl) (ixl rfl rfl li26 rfl (by first | omega | (show (op.length : Int) < (x.1.length : Int); omega) | (show (op.length : Int) < ((ix KRLSzSz.z (x :: r) (n : Int)).1.length : Int); omega) | (simp [blanks_len]; omega) | (show (_ : Nat) + x.2.1.length ≤ _; simp [blanks_len]; omega)) (by first | omega | (show (op.length : Int) < (x.1.length : Int); omega) | (show (op.length : Int) < ((ix KRLSzSz.z (x :: r) (n : Int)).1.length : Int); omega) | (simp [blanks_len]; omega) | (show (_ : Nat) + x.2.1.length ≤ _; simp [blanks_len]; omega))) rfl ?_ | refine o (.inr ⟨_, _, _, rfl, rfl, rfl⟩) (L rfl) (ixo rfl rfl rfl li26 rfl (by first | omega | (show (op.length : Int) < (x.1.length : Int); omega) | (show (op.length : Int) < ((ix KRLSzSz.z (x :: r) (n : Int)).1.length : Int); omega) | (simp [blanks_len]; omega) | (show (_ : Nat) + x.2.1.length ≤ _; simp [blanks_len]; omega)) (by first | omega | (show (op.length : Int) < (x.1.length : Int); omega) | (show (op.length : Int) < ((ix KRLSzSz.z (x :: r) (n : Int)).1.length : Int); omega) | (simp [blanks_len]; omega) | (show (_ : Nat) + x.2.1.length ≤ _; simp [blanks_len]; omega))) rfl ?_
          first | refine o (.inr ⟨_, _, _, rfl, rfl, rfl⟩) (L rfl) (fab rfl fi94_0) rfl ?_ | refine o (.inr ⟨_, _, _, rfl, rfl, rfl⟩) (L rfl) (fae rfl fi94_0) rfl ?_ | refine o (.inr ⟨_, _, _, rfl, rfl, rfl⟩) (L rfl) (far rfl fi94_0 (Le rfl)) rfl ?_
          first | refine o (.inr ⟨_, _, _, rfl, rfl, rfl⟩) (L rfl) (ldb rfl rfl rfl ti40) rfl ?_ | refine o (.inr ⟨_, _, _, rfl, rfl, rfl⟩) (L rfl) (ldr rfl ti40) rfl ?_ | refine o (.inr ⟨_, _, _, rfl, rfl, rfl⟩) (L rfl) (lde rfl rfl (by first | omega | (show (op.length : Int) < (x.1.length : Int); omega) | (show (op.length : Int) < ((ix KRLSzSz.z (x :: r) (n : Int)).1.length : Int); omega) | (simp [blanks_len]; omega) | (show (_ : Nat) + x.2.1.length ≤ _; simp [blanks_len]; omega)) (L rfl) rfl ti40) rfl ?_
          refine o (.inr ⟨_, _, _, rfl, rfl, rfl⟩) (L rfl) (mv rfl) rfl ?_
          first | refine o (.inr ⟨_, _, _, rfl, rfl, rfl⟩) (L rfl) (ixl rfl rfl li40 rfl (by first | omega | (show (op.length : Int) < (x.1.length : Int); omega) | (show (op.length : Int) < ((ix KRLSzSz.z (x :: r) (n : Int)).1.length : Int); omega) | (simp [blanks_len]; omega) | (show (_ : Nat) + x.2.1.length ≤ _; simp [blanks_len]; omega)) (by first | omega | (show (op.length : Int) < (x.1.length : Int); omega) | (show (op.length : Int) < ((ix KRLSzSz.z (x :: r) (n : Int)).1.length : Int); omega) | (simp [blanks_len]; omega) | (show (_ : Nat) + x.2.1.length ≤ _; simp [blanks_len]; omega))) rfl ?_ | refine o (.inr ⟨_, _, _, rfl, rfl, rfl⟩) (L rfl) (ixo rfl rfl rfl li40 rfl (by first | omega | (show (op.length : Int) < (x.1.length : Int); omega) | (show (op.length : Int) < ((ix KRLSzSz.z (x :: r) (n : Int)).1.length : Int); omega) | (simp [blanks_len]; omega) | (show (_ : Nat) + x.2.1.length ≤ _; simp [blanks_len]; omega)) (by first | omega | (show (op.length : Int) < (x.1.length : Int); omega) | (show (op.length : Int) < ((ix KRLSzSz.z (x :: r) (n : Int)).1.length : Int); omega) | (simp [blanks_len]; omega) | (show (_ : Nat) + x.2.1.length ≤ _; simp [blanks_len]; omega))) rfl ?_
          first | refine o (.inr ⟨_, _, _, rfl, rfl, rfl⟩) (L rfl) (ldb rfl rfl rfl ti9) rfl ?_ | refine o (.inr ⟨_, _, _, rfl, rfl, rfl⟩) (L rfl) (ldr rfl ti9) rfl ?_ | refine o (.inr ⟨_, _, _, rfl, rfl, rfl⟩) (L rfl) (lde rfl rfl (by first | omega | (show (op.length : Int) < (x.1.length : Int); omega) | (show (op.length : Int) < ((ix KRLSzSz.z (x :: r) (n : Int)).1.length : Int); omega) | (simp [blanks_len]; omega) | (show (_ : Nat) + x.2.1.length ≤ _; simp [blanks_len]; omega)) (L rfl) rfl ti9) rfl ?_
          refine o (.inr ⟨_, _, _, rfl, rfl, rfl⟩) (L rfl) (mv rfl) rfl ?_
          refine o (.inr ⟨_, _, _, rfl, rfl, rfl⟩) (L rfl) (sbin rfl rfl rfl) rfl ?_
          refine o (.inl rfl) (L rfl) (pickT rfl rfl) rfl ?_
          refine onil ?_
          refine xthn ?_
          refine ccond rfl (fun c3 => ?_) (fun c3 => ?_)
          · repeat (first | simp only [decide_eq_true_eq] at c3 | simp only [decide_eq_false_iff_not] at c3 | simp only [beq_iff_eq] at c3 | simp only [bne_iff_ne] at c3 | simp only [Bool.not_eq_true'] at c3 | simp only [Bool.not_eq_false'] at c3 | simp only [beq_eq_false_iff_ne] at c3 | simp only [bne_eq_false_iff_eq] at c3 | simp only [Bool.not_not] at c3 | simp only [ne_eq] at c3 | simp only [Int.not_lt] at c3 | simp only [Int.not_le] at c3 | simp only [gt_iff_lt] at c3 | simp only [ge_iff_le] at c3 | simp only [Bool.not_eq_true] at c3 | simp only [Bool.not_eq_false] at c3 | simp only [Decidable.not_not] at c3)
            refine cskip ?_
            refine xthn ?_
            refine cblock ?_
            refine creg ?_
            refine o (.inl rfl) (L rfl) (mv rfl) rfl ?_
            refine o (.inl rfl) (L rfl) (iadd rfl rfl (by first | omega | (show (op.length : Int) < (x.1.length : Int); omega) | (show (op.length : Int) < ((ix KRLSzSz.z (x :: r) (n : Int)).1.length : Int); omega) | (simp [blanks_len]; omega) | (show (_ : Nat) + x.2.1.length ≤ _; simp [blanks_len]; omega)) (by first | omega | (show (op.length : Int) < (x.1.length : Int); omega) | (show (op.length : Int) < ((ix KRLSzSz.z (x :: r) (n : Int)).1.length : Int); omega) | (simp [blanks_len]; omega) | (show (_ : Nat) + x.2.1.length ≤ _; simp [blanks_len]; omega))) rfl ?_
            refine o (.inl rfl) (L rfl) (asn rfl) rfl ?_
            refine onil ?_
            refine xbn ?_
            refine xlq (n + 1) (by refine ⟨by omega, by omega, fun j hj => if h : j < n then i1.2.2 j h else ?_⟩; have e : j = n := (by omega); subst e; exact c3) (by simp only []; omega) (weak [0] (by decide) (h1 hH) (by repeat (first | exact .n | refine .c rfl (by first | rfl) ?_)) (by repeat (first | exact .n | refine .c rfl (by first | rfl | (simp; done)) ?_)))
          · repeat (first | simp only [decide_eq_true_eq] at c3 | simp only [decide_eq_false_iff_not] at c3 | simp only [beq_iff_eq] at c3 | simp only [bne_iff_ne] at c3 | simp only [Bool.not_eq_true'] at c3 | simp only [Bool.not_eq_false'] at c3 | simp only [beq_eq_false_iff_ne] at c3 | simp only [bne_eq_false_iff_eq] at c3 | simp only [Bool.not_not] at c3 | simp only [ne_eq] at c3 | simp only [Int.not_lt] at c3 | simp only [Int.not_le] at c3 | simp only [gt_iff_lt] at c3 | simp only [ge_iff_le] at c3 | simp only [Bool.not_eq_true] at c3 | simp only [Bool.not_eq_false] at c3 | simp only [Decidable.not_not] at c3)
            refine cexit ?_
            refine xthe ?_
            refine xle ?_
            refine xbh ?_
            exact xmq n (by exact ⟨i1, .inr c3⟩) (weak [0] (by decide) (h1 hH) (by repeat (first | exact .n | refine .c rfl (by first | rfl) ?_)) (by repeat (first | exact .n | refine .c rfl (by first | rfl | (simp; done)) ?_)))
        · repeat (first | simp only [decide_eq_true_eq] at c2 | simp only [decide_eq_false_iff_not] at c2 | simp only [beq_iff_eq] at c2 | simp only [bne_iff_ne] at c2 | simp only [Bool.not_eq_true'] at c2 | simp only [Bool.not_eq_false'] at c2 | simp only [beq_eq_false_iff_ne] at c2 | simp only [bne_eq_false_iff_eq] at c2 | simp only [Bool.not_not] at c2 | simp only [ne_eq] at c2 | simp only [Int.not_lt] at c2 | simp only [Int.not_le] at c2 | simp only [gt_iff_lt] at c2 | simp only [ge_iff_le] at c2 | simp only [Bool.not_eq_true] at c2 | simp only [Bool.not_eq_false] at c2 | simp only [Decidable.not_not] at c2)
          refine oskip rfl rfl rfl rfl rfl (L rfl) ?_
          refine oskip rfl rfl rfl rfl rfl (L rfl) ?_
          refine oskip rfl rfl rfl rfl rfl (L rfl) ?_
          refine oskip rfl rfl rfl rfl rfl (L rfl) ?_
          refine oskip rfl rfl rfl rfl rfl (L rfl) ?_
          refine oskip rfl rfl rfl rfl rfl (L rfl) ?_
          refine oskip rfl rfl rfl rfl rfl (L rfl) ?_
          refine oskip rfl rfl rfl rfl rfl (L rfl) ?_
          refine oskip rfl rfl rfl rfl rfl (L rfl) ?_
          refine oskip rfl rfl rfl rfl rfl (L rfl) ?_
          refine o (.inl rfl) (L rfl) (pickF rfl rfl) rfl ?_
          refine onil ?_
          refine xthn ?_
          refine ccF rfl ?_
          refine cexit ?_
          refine xthe ?_
          refine xle ?_
          refine xbh ?_
          exact xmq n (by exact ⟨i1, .inl (by omega)⟩) (weak [0] (by decide) (h1 hH) (by repeat (first | exact .n | refine .c rfl (by first | rfl) ?_)) (by repeat (first | exact .n | refine .c rfl (by first | rfl | (simp; done)) ?_)))
      rintro n mb2
      try simp only [] at mb2
      have mh := mb2
      rw [hw] at mb2
      have gm := grp_mem (fun y hy => (i0.1.1 y hy).1) mb2.1.2.1 mb2.1.2.2
      have go := other_of (fun y hy => (i0.1.1 y hy).1) mb2.2
      refine cseq ?_
      refine cseq ?_
      refine creg ?_
      refine o (.inl rfl) (L rfl) (mv rfl) rfl ?_
      first | refine o (.inl rfl) (L rfl) (ixl rfl rfl li26 rfl (by first | omega | (show (op.length : Int) < (x.1.length : Int); omega) | (show (op.length : Int) < ((ix KRLSzSz.z (x :: r) (n : Int)).1.length : Int); omega) | (simp [blanks_len]; omega) | (show (_ : Nat) + x.2.1.length ≤ _; simp [blanks_len]; omega)) (by first | omega | (show (op.length : Int) < (x.1.length : Int); omega) | (show (op.length : Int) < ((ix KRLSzSz.z (x :: r) (n : Int)).1.length : Int); omega) | (simp [blanks_len]; omega) | (show (_ : Nat) + x.2.1.length ≤ _; simp [blanks_len]; omega))) rfl ?_ | refine o (.inl rfl) (L rfl) (ixo rfl rfl rfl li26 rfl (by first | omega | (show (op.length : Int) < (x.1.length : Int); omega) | (show (op.length : Int) < ((ix KRLSzSz.z (x :: r) (n : Int)).1.length : Int); omega) | (simp [blanks_len]; omega) | (show (_ : Nat) + x.2.1.length ≤ _; simp [blanks_len]; omega)) (by first | omega | (show (op.length : Int) < (x.1.length : Int); omega) | (show (op.length : Int) < ((ix KRLSzSz.z (x :: r) (n : Int)).1.length : Int); omega) | (simp [blanks_len]; omega) | (show (_ : Nat) + x.2.1.length ≤ _; simp [blanks_len]; omega))) rfl ?_
      first | refine o (.inl rfl) (L rfl) (fab rfl fi94_0) rfl ?_ | refine o (.inl rfl) (L rfl) (fae rfl fi94_0) rfl ?_ | refine o (.inl rfl) (L rfl) (far rfl fi94_0 (Le rfl)) rfl ?_
      first | refine o (.inl rfl) (L rfl) (ldb rfl rfl rfl ti40) rfl ?_ | refine o (.inl rfl) (L rfl) (ldr rfl ti40) rfl ?_ | refine o (.inl rfl) (L rfl) (lde rfl rfl (by first | omega | (show (op.length : Int) < (x.1.length : Int); omega) | (show (op.length : Int) < ((ix KRLSzSz.z (x :: r) (n : Int)).1.length : Int); omega) | (simp [blanks_len]; omega) | (show (_ : Nat) + x.2.1.length ≤ _; simp [blanks_len]; omega)) (L rfl) rfl ti40) rfl ?_
      first | refine ofact (t := 42) rfl fun hl3 => ?_ | refine ofacts (t := 42) rfl fun hl3 => ?_ | skip
      first | refine o (.inl rfl) (L rfl) (lenl rfl li40) rfl ?_ | refine o (.inl rfl) (L rfl) (leno rfl rfl li40) rfl ?_ | refine o (.inl rfl) (L rfl) (lennl rfl li40) rfl ?_
      refine o (.inl rfl) (L rfl) (mv rfl) rfl ?_
      refine o (.inl rfl) (L rfl) (iadd rfl rfl (by first | omega | (show (op.length : Int) < (x.1.length : Int); omega) | (show (op.length : Int) < ((ix KRLSzSz.z (x :: r) (n : Int)).1.length : Int); omega) | (simp [blanks_len]; omega) | (show (_ : Nat) + x.2.1.length ≤ _; simp [blanks_len]; omega)) (by first | omega | (show (op.length : Int) < (x.1.length : Int); omega) | (show (op.length : Int) < ((ix KRLSzSz.z (x :: r) (n : Int)).1.length : Int); omega) | (simp [blanks_len]; omega) | (show (_ : Nat) + x.2.1.length ≤ _; simp [blanks_len]; omega))) rfl ?_
      refine o (.inl rfl) (L rfl) (ibin rfl rfl rfl) rfl ?_
      refine onil ?_
      refine xthn ?_
      refine ccond rfl (fun c4 => ?_) (fun c4 => ?_)
      · repeat (first | simp only [decide_eq_true_eq] at c4 | simp only [decide_eq_false_iff_not] at c4 | simp only [beq_iff_eq] at c4 | simp only [bne_iff_ne] at c4 | simp only [Bool.not_eq_true'] at c4 | simp only [Bool.not_eq_false'] at c4 | simp only [beq_eq_false_iff_ne] at c4 | simp only [bne_eq_false_iff_eq] at c4 | simp only [Bool.not_not] at c4 | simp only [ne_eq] at c4 | simp only [Int.not_lt] at c4 | simp only [Int.not_le] at c4 | simp only [gt_iff_lt] at c4 | simp only [ge_iff_le] at c4 | simp only [Bool.not_eq_true] at c4 | simp only [Bool.not_eq_false] at c4 | simp only [Decidable.not_not] at c4)
        have wl2 : (Tys.dropd 1 KRLSzSz (ix KRLSzSz.z (x :: r) (0 : Int))).1.length ≤ 8 := wl.2
        have c5 : (x.1.length : Int) = op.length + 1 := c4
        have ht : t = [] := (by cases t with | nil => rfl | cons u t => (exfalso; rw [hx1] at c5; simp at c5; omega))
        subst ht
        have n1 : n = 1 := grp_one i0.1.2 hx1 gm mb2.1.1 mb2.1.2.1
        have tl := tx_leaf (lo := op.length) (r := r) hx1
        have le : leafT x = blanks op.length ++ (ix KS.z x.1 (op.length : Int)).1 ++ [32] ++ x.2.1 ++ [59, 10] := by rw [leafT, show x.1.length - 1 = op.length by omega, show (x.1.length : Int) - 1 = op.length by omega]
        have tb := i0.2.2.2
        rw [tl, le, List.length_append] at tb
        refine creg ?_
        refine o (.inl rfl) (L rfl) (mv rfl) rfl ?_
        refine o (.inl rfl) (L rfl) (mv rfl) rfl ?_
        refine o (.inl rfl) (L rfl) (mv rfl) rfl ?_
        refine o (.inl rfl) (L rfl) (sadd rfl rfl (by first | omega | (show (op.length : Int) < (x.1.length : Int); omega) | (show (op.length : Int) < ((ix KRLSzSz.z (x :: r) (n : Int)).1.length : Int); omega) | (simp [blanks_len]; omega) | (show (_ : Nat) + x.2.1.length ≤ _; simp [blanks_len]; omega))) rfl ?_
        refine o (.inl rfl) (L rfl) (sadd rfl rfl (by first | omega | (show (op.length : Int) < (x.1.length : Int); omega) | (show (op.length : Int) < ((ix KRLSzSz.z (x :: r) (n : Int)).1.length : Int); omega) | (simp [blanks_len]; omega) | (show (_ : Nat) + x.2.1.length ≤ _; simp [blanks_len]; omega))) rfl ?_
        refine o (.inl rfl) (L rfl) (mv rfl) rfl ?_
        first | refine o (.inl rfl) (L rfl) (ixl rfl rfl li26 rfl (by first | omega | (show (op.length : Int) < (x.1.length : Int); omega) | (show (op.length : Int) < ((ix KRLSzSz.z (x :: r) (n : Int)).1.length : Int); omega) | (simp [blanks_len]; omega) | (show (_ : Nat) + x.2.1.length ≤ _; simp [blanks_len]; omega)) (by first | omega | (show (op.length : Int) < (x.1.length : Int); omega) | (show (op.length : Int) < ((ix KRLSzSz.z (x :: r) (n : Int)).1.length : Int); omega) | (simp [blanks_len]; omega) | (show (_ : Nat) + x.2.1.length ≤ _; simp [blanks_len]; omega))) rfl ?_ | refine o (.inl rfl) (L rfl) (ixo rfl rfl rfl li26 rfl (by first | omega | (show (op.length : Int) < (x.1.length : Int); omega) | (show (op.length : Int) < ((ix KRLSzSz.z (x :: r) (n : Int)).1.length : Int); omega) | (simp [blanks_len]; omega) | (show (_ : Nat) + x.2.1.length ≤ _; simp [blanks_len]; omega)) (by first | omega | (show (op.length : Int) < (x.1.length : Int); omega) | (show (op.length : Int) < ((ix KRLSzSz.z (x :: r) (n : Int)).1.length : Int); omega) | (simp [blanks_len]; omega) | (show (_ : Nat) + x.2.1.length ≤ _; simp [blanks_len]; omega))) rfl ?_
        first | refine o (.inl rfl) (L rfl) (fab rfl fi94_1) rfl ?_ | refine o (.inl rfl) (L rfl) (fae rfl fi94_1) rfl ?_ | refine o (.inl rfl) (L rfl) (far rfl fi94_1 (Le rfl)) rfl ?_
        first | refine o (.inl rfl) (L rfl) (ldb rfl rfl rfl ti9) rfl ?_ | refine o (.inl rfl) (L rfl) (ldr rfl ti9) rfl ?_ | refine o (.inl rfl) (L rfl) (lde rfl rfl (by first | omega | (show (op.length : Int) < (x.1.length : Int); omega) | (show (op.length : Int) < ((ix KRLSzSz.z (x :: r) (n : Int)).1.length : Int); omega) | (simp [blanks_len]; omega) | (show (_ : Nat) + x.2.1.length ≤ _; simp [blanks_len]; omega)) (L rfl) rfl ti9) rfl ?_
        refine o (.inl rfl) (L rfl) (sadd rfl rfl (by first | omega | (show (op.length : Int) < (x.1.length : Int); omega) | (show (op.length : Int) < ((ix KRLSzSz.z (x :: r) (n : Int)).1.length : Int); omega) | (simp [blanks_len]; omega) | (show (_ : Nat) + x.2.1.length ≤ _; simp [blanks_len]; omega))) rfl ?_
        refine o (.inl rfl) (L rfl) (sadd rfl rfl (by first | omega | (show (op.length : Int) < (x.1.length : Int); omega) | (show (op.length : Int) < ((ix KRLSzSz.z (x :: r) (n : Int)).1.length : Int); omega) | (simp [blanks_len]; omega) | (show (_ : Nat) + x.2.1.length ≤ _; simp [blanks_len]; omega))) rfl ?_
        refine ocall c_strings_Builder_WriteString (s, blanks op.length ++ (ix KS.z x.1 (op.length : Int)).1 ++ [32] ++ x.2.1 ++ [59, 10]) [0] [] (by repeat (first | exact .n | refine .c rfl (.c (.e rfl)) ?_ | refine .c rfl (.c (.o (by decide) rfl)) ?_ | refine .c rfl (.c .n) ?_  | refine .c rfl (.g (by repeat (first | exact .n | refine .c (.e rfl) ?_ | refine .c (.o (by decide) rfl) ?_ | refine .c .n ?_))) ?_)) (by show s.length + (blanks op.length ++ (ix KS.z x.1 (op.length : Int)).1 ++ [32] ++ x.2.1 ++ [59, 10]).length ≤ 140737488355328; omega) (.inl rfl) (by decide) (by decide) (by repeat (first | exact .n | refine .c rfl rfl ?_)) (Le rfl) (.inl rfl) (L rfl) ?_
        refine onil ?_
        refine xthn ?_
        refine creg ?_
        refine o (.inl rfl) (L rfl) (mv rfl) rfl ?_
        refine o (.inl rfl) (L rfl) (mv rfl) rfl ?_
        refine o (.inl rfl) (L rfl) (cutl rfl rfl li26 rfl (by first | omega | (show (op.length : Int) < (x.1.length : Int); omega) | (show (op.length : Int) < ((ix KRLSzSz.z (x :: r) (n : Int)).1.length : Int); omega) | (simp [blanks_len]; omega) | (show (_ : Nat) + x.2.1.length ≤ _; simp [blanks_len]; omega)) (by first | omega | (show (op.length : Int) < (x.1.length : Int); omega) | (show (op.length : Int) < ((ix KRLSzSz.z (x :: r) (n : Int)).1.length : Int); omega) | (simp [blanks_len]; omega) | (show (_ : Nat) + x.2.1.length ≤ _; simp [blanks_len]; omega))) rfl ?_
        refine o (.inl rfl) (L rfl) (asn rfl) rfl ?_
        refine onil ?_
        refine xbn ?_
        refine xlq ((x :: r).drop n, s ++ (blanks op.length ++ (ix KS.z x.1 (op.length : Int)).1 ++ [32] ++ x.2.1 ++ [59, 10])) (by subst n1; refine ⟨Gd_drop 1 i0.1, by have := i0.2.1; simp at this ⊢; omega, ?_, by simp only [List.length_append, List.drop_succ_cons, List.drop_zero] at *; omega⟩; rw [i0.2.2.1, tl, le]; simp only [List.append_assoc, List.drop_succ_cons, List.drop_zero]) (by simp only [List.length_drop]; omega) (weak [0] (by decide) (h1 hH) (by repeat (first | exact .n | refine .c rfl (by first | rfl) ?_)) (by repeat (first | exact .n | refine .c rfl (by first | rfl | (simp; done)) ?_)))
      · repeat (first | simp only [decide_eq_true_eq] at c4 | simp only [decide_eq_false_iff_not] at c4 | simp only [beq_iff_eq] at c4 | simp only [bne_iff_ne] at c4 | simp only [Bool.not_eq_true'] at c4 | simp only [Bool.not_eq_false'] at c4 | simp only [beq_eq_false_iff_ne] at c4 | simp only [bne_eq_false_iff_eq] at c4 | simp only [Bool.not_not] at c4 | simp only [ne_eq] at c4 | simp only [Int.not_lt] at c4 | simp only [Int.not_le] at c4 | simp only [gt_iff_lt] at c4 | simp only [ge_iff_le] at c4 | simp only [Bool.not_eq_true] at c4 | simp only [Bool.not_eq_false] at c4 | simp only [Decidable.not_not] at c4)
        have c5 : ¬ (x.1.length : Int) = op.length + 1 := c4
        obtain ⟨u, t, rfl⟩ : ∃ u t2, t = u :: t2 := (match t, hx1 with | [], hx1 => by exfalso; rw [hx1] at c5; simp at c5 | u :: t, _ => ⟨u, t, rfl⟩)
        have gl : ∀ y ∈ (x :: r).take n, ∃ u t, y.1 = op ++ w :: u :: t := by obtain ⟨n1, rfl⟩ : ∃ n1, n = n1 + 1 := ⟨n - 1, by omega⟩; intro y hy; rw [List.take_succ_cons] at hy; exact (List.mem_cons.1 hy).elim (fun e => ⟨u, t, e ▸ hx1⟩) (fun hy => grp_long r x n1 i0.1.2 ⟨u, t, hx1⟩ (fun z hz => gm z (by rw [List.take_succ_cons]; exact List.mem_cons_of_mem _ hz)) y hy)
        have gg := Gd_group i0.1 gl
        rw [← hw] at gg
        have ol : (op ++ [ix KS.z x.1 (op.length : Int)]).length = op.length + 1 := by simp
        have tg : tx op.length op (x :: r) = (blanks op.length ++ (ix KS.z x.1 (op.length : Int)).1 ++ [32, 123, 10]) ++ tx (op ++ [ix KS.z x.1 (op.length : Int)]).length (op ++ [ix KS.z x.1 (op.length : Int)]) ((x :: r).take n) ++ (blanks op.length ++ [125, 10]) ++ tx op.length op ((x :: r).drop n) := by rw [ol, hw]; obtain ⟨n1, rfl⟩ : ∃ n1, n = n1 + 1 := ⟨n - 1, by omega⟩; have := tx_group go x (r.take n1) (by rw [← List.take_succ_cons]; exact gl); simp only [List.drop_succ_cons, List.take_succ_cons, List.cons_append, List.take_append_drop] at this ⊢; exact this
        have tb := i0.2.2.2
        rw [tg] at tb
        rw [List.length_append, List.length_append, List.length_append] at tb
        have nl : ((x :: r).take n).length ≤ 30 := by have := i0.2.1; simp at this ⊢; omega
        refine cseq ?_
        refine creg ?_
        refine o (.inl rfl) (L rfl) (mv rfl) rfl ?_
        refine o (.inl rfl) (L rfl) (mv rfl) rfl ?_
        refine o (.inl rfl) (L rfl) (mv rfl) rfl ?_
        refine o (.inl rfl) (L rfl) (sadd rfl rfl (by first | omega | (show (op.length : Int) < (x.1.length : Int); omega) | (show (op.length : Int) < ((ix KRLSzSz.z (x :: r) (n : Int)).1.length : Int); omega) | (simp [blanks_len]; omega) | (show (_ : Nat) + x.2.1.length ≤ _; simp [blanks_len]; omega))) rfl ?_
        refine o (.inl rfl) (L rfl) (sadd rfl rfl (by first | omega | (show (op.length : Int) < (x.1.length : Int); omega) | (show (op.length : Int) < ((ix KRLSzSz.z (x :: r) (n : Int)).1.length : Int); omega) | (simp [blanks_len]; omega) | (show (_ : Nat) + x.2.1.length ≤ _; simp [blanks_len]; omega))) rfl ?_
        refine ocall c_strings_Builder_WriteString (s, blanks op.length ++ (ix KS.z x.1 (op.length : Int)).1 ++ [32, 123, 10]) [0] [] (by repeat (first | exact .n | refine .c rfl (.c (.e rfl)) ?_ | refine .c rfl (.c (.o (by decide) rfl)) ?_ | refine .c rfl (.c .n) ?_  | refine .c rfl (.g (by repeat (first | exact .n | refine .c (.e rfl) ?_ | refine .c (.o (by decide) rfl) ?_ | refine .c .n ?_))) ?_)) (by simp only []; omega) (.inl rfl) (by decide) (by decide) (by repeat (first | exact .n | refine .c rfl rfl ?_)) (Le rfl) (.inl rfl) (L rfl) ?_
        refine onil ?_
        refine xthn ?_
        refine cseq ?_
        refine creg ?_
        refine o (.inl rfl) (L rfl) (mv rfl) rfl ?_
        refine o (.inl rfl) (L rfl) (mv rfl) rfl ?_
        refine o (.inl rfl) (L rfl) (cuth rfl rfl li26 rfl (by first | omega | (show (op.length : Int) < (x.1.length : Int); omega) | (show (op.length : Int) < ((ix KRLSzSz.z (x :: r) (n : Int)).1.length : Int); omega) | (simp [blanks_len]; omega) | (show (_ : Nat) + x.2.1.length ≤ _; simp [blanks_len]; omega)) (by first | omega | (show (op.length : Int) < (x.1.length : Int); omega) | (show (op.length : Int) < ((ix KRLSzSz.z (x :: r) (n : Int)).1.length : Int); omega) | (simp [blanks_len]; omega) | (show (_ : Nat) + x.2.1.length ≤ _; simp [blanks_len]; omega))) rfl ?_
        refine o (.inl rfl) (L rfl) (mv rfl) rfl ?_
        refine o (.inl rfl) (L rfl) (iadd rfl rfl (by first | omega | (show (op.length : Int) < (x.1.length : Int); omega) | (show (op.length : Int) < ((ix KRLSzSz.z (x :: r) (n : Int)).1.length : Int); omega) | (simp [blanks_len]; omega) | (show (_ : Nat) + x.2.1.length ≤ _; simp [blanks_len]; omega)) (by first | omega | (show (op.length : Int) < (x.1.length : Int); omega) | (show (op.length : Int) < ((ix KRLSzSz.z (x :: r) (n : Int)).1.length : Int); omega) | (simp [blanks_len]; omega) | (show (_ : Nat) + x.2.1.length ≤ _; simp [blanks_len]; omega))) rfl ?_
        refine o (.inl rfl) (L rfl) (mv rfl) rfl ?_
        refine ocall ih ((x :: r).take n, op ++ [ix KS.z x.1 (op.length : Int)], s ++ (blanks op.length ++ (ix KS.z x.1 (op.length : Int)).1 ++ [32, 123, 10])) [0] [] (by repeat (first | exact .n | refine .c rfl (.c (.e rfl)) ?_ | refine .c rfl (.c (.o (by decide) rfl)) ?_ | refine .c rfl (.c .n) ?_  | refine .c rfl (.c (.e (by first | rfl | exact tqi (by simp)))) ?_ | refine .c rfl (.g (by repeat (first | exact .n | refine .c (.e rfl) ?_ | refine .c (.o (by decide) rfl) ?_ | refine .c .n ?_))) ?_)) (by exact ⟨⟨by rw [ol]; omega, gg, nl, by rw [List.length_append]; omega⟩, by rw [ol]; omega⟩) (.inl rfl) (by decide) (by decide) (by repeat (first | exact .n | refine .c rfl rfl ?_)) (Le rfl) (.inl rfl) (L rfl) ?_
        refine onil ?_
        refine xthn ?_
        refine creg ?_
        refine o (.inl rfl) (L rfl) (mv rfl) rfl ?_
        refine o (.inl rfl) (L rfl) (mv rfl) rfl ?_
        refine o (.inl rfl) (L rfl) (sadd rfl rfl (by first | omega | (show (op.length : Int) < (x.1.length : Int); omega) | (show (op.length : Int) < ((ix KRLSzSz.z (x :: r) (n : Int)).1.length : Int); omega) | (simp [blanks_len]; omega) | (show (_ : Nat) + x.2.1.length ≤ _; simp [blanks_len]; omega))) rfl ?_
        refine ocall c_strings_Builder_WriteString (s ++ (blanks op.length ++ (ix KS.z x.1 (op.length : Int)).1 ++ [32, 123, 10]) ++ tx (op ++ [ix KS.z x.1 (op.length : Int)]).length (op ++ [ix KS.z x.1 (op.length : Int)]) ((x :: r).take n), blanks op.length ++ [125, 10]) [0] [] (by repeat (first | exact .n | refine .c rfl (.c (.e rfl)) ?_ | refine .c rfl (.c (.o (by decide) rfl)) ?_ | refine .c rfl (.c .n) ?_  | refine .c rfl (.g (by repeat (first | exact .n | refine .c (.e rfl) ?_ | refine .c (.o (by decide) rfl) ?_ | refine .c .n ?_))) ?_)) (by simp only []; rw [List.length_append, List.length_append]; omega) (.inl rfl) (by decide) (by decide) (by repeat (first | exact .n | refine .c rfl rfl ?_)) (Le rfl) (.inl rfl) (L rfl) ?_
        refine onil ?_
        refine xthn ?_
        refine creg ?_
        refine o (.inl rfl) (L rfl) (mv rfl) rfl ?_
        refine o (.inl rfl) (L rfl) (mv rfl) rfl ?_
        refine o (.inl rfl) (L rfl) (cutl rfl rfl li26 rfl (by first | omega | (show (op.length : Int) < (x.1.length : Int); omega) | (show (op.length : Int) < ((ix KRLSzSz.z (x :: r) (n : Int)).1.length : Int); omega) | (simp [blanks_len]; omega) | (show (_ : Nat) + x.2.1.length ≤ _; simp [blanks_len]; omega)) (by first | omega | (show (op.length : Int) < (x.1.length : Int); omega) | (show (op.length : Int) < ((ix KRLSzSz.z (x :: r) (n : Int)).1.length : Int); omega) | (simp [blanks_len]; omega) | (show (_ : Nat) + x.2.1.length ≤ _; simp [blanks_len]; omega))) rfl ?_
        refine o (.inl rfl) (L rfl) (asn rfl) rfl ?_
        refine onil ?_
        refine xbn ?_
        refine xlq ((x :: r).drop n, s ++ (blanks op.length ++ (ix KS.z x.1 (op.length : Int)).1 ++ [32, 123, 10]) ++ tx (op ++ [ix KS.z x.1 (op.length : Int)]).length (op ++ [ix KS.z x.1 (op.length : Int)]) ((x :: r).take n) ++ (blanks op.length ++ [125, 10])) (by refine ⟨Gd_drop n i0.1, by have := i0.2.1; simp at this ⊢; omega, ?_, by rw [List.length_append, List.length_append, List.length_append]; omega⟩; rw [i0.2.2.1, tg]; simp only [List.append_assoc]) (by simp only [List.length_drop]; omega) (weak [0] (by decide) (h1 hH) (by repeat (first | exact .n | refine .c rfl (by first | rfl) ?_)) (by repeat (first | exact .n | refine .c rfl (by first | rfl | (simp; done)) ?_)))
    · repeat (first | simp only [decide_eq_true_eq] at c1 | simp only [decide_eq_false_iff_not] at c1 | simp only [beq_iff_eq] at c1 | simp only [bne_iff_ne] at c1 | simp only [Bool.not_eq_true'] at c1 | simp only [Bool.not_eq_false'] at c1 | simp only [beq_eq_false_iff_ne] at c1 | simp only [bne_eq_false_iff_eq] at c1 | simp only [Bool.not_not] at c1 | simp only [ne_eq] at c1 | simp only [Int.not_lt] at c1 | simp only [Int.not_le] at c1 | simp only [gt_iff_lt] at c1 | simp only [ge_iff_le] at c1 | simp only [Bool.not_eq_true] at c1 | simp only [Bool.not_eq_false] at c1 | simp only [Decidable.not_not] at c1)
      refine cexit ?_
      refine xthe ?_
      refine xle ?_
      refine xbh ?_
      refine retgn ?_
      exact retk [0] (ob' := [.bld 98 5 s]) rfl (.n) (by decide) (h1 hH) (.c rfl rfl .n) rfl (by have e : l = [] := List.eq_nil_of_length_eq_zero (by omega); subst e; have q : bs ++ tx op.length op l0 = s := (by rw [i0.2.2.1, tx, closes_end (Nat.le_refl _), List.append_nil]); exact congrArg (fun z => (AV.tup [], [Ob.bld 98 5 z])) q)
theorem c_impl_write : Fe Go.Proofs.Try.prog 60 (ι := Leafs × StrS × List UInt8) (fun | (l0, op, bs) => [.c (.l KRLSzSz) l0, .c (.i .i64) (op.length : Int), .bp 0 0]) (fun | (l0, op, bs) => [.bld 98 5 bs]) (fun | (l0, op, bs) => op.length ≤ 4 ∧ Gd op l0 ∧ l0.length ≤ 30 ∧ bs.length + (tx op.length op l0).length ≤ 1048576) (fun | (l0, op, bs) => (.tup [], [.bld 98 5 (bs ++ tx op.length op l0)])) :=
  ⟨(c_impl_write_rec 5).1, fun x hx => (c_impl_write_rec 5).2 x ⟨hx, by obtain ⟨l0, op, bs⟩ := x; simp only []; omega⟩⟩

end Go.Proofs.YtifpekpmnlcmoaaE
