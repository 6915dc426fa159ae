import Derived.Test.YtifpekpmnlcmoaaProg
import Derived.Test.YtifpekpmnlcmoaaE33
import Derived.Test.YtifpekpmnlcmoaaD1
import Derived.Test.YtifpekpmnlcmoaaA7
set_option linter.unusedVariables false
set_option linter.unusedSimpArgs false
set_option maxRecDepth 100000
namespace Go.Proofs.YtifpekpmnlcmoaaE
open Go Go.RowKit Go.Shelf Go.Proofs

/-- What is kept. -/
def fl {α β : Type} (p : α → Bool) (q : List (α × β)) : List (α × β) := q.filter (fun z => !p z.1)
theorem fl_le {α β : Type} (p : α → Bool) (q : List (α × β)) : (fl p q).length ≤ q.length := List.length_filter_le _ _
theorem fl_d {α β : Type} (p : α → Bool) (q : List (α × β)) : (fl p q).map (·.1) = (q.map (·.1)).filter (fun x => !p x) := by
  induction q with
  | nil => rfl
  | cons x q ih => simp only [fl, List.filter_cons, List.map_cons] at ih ⊢; split <;> simp [ih]
theorem fl_keep {α β : Type} {p : α → Bool} {q : List (α × β)} {z : α × β} {j : Nat} (h : j < q.length) (hp : p (ix z q (j : Int)).1 = false) : fl p (q.take (j + 1)) = fl p (q.take j) ++ [ix z q (j : Int)] := by
  rw [take_ix (z := z) h, fl, List.filter_append]; simp [fl, hp]
theorem fl_drop {α β : Type} {p : α → Bool} {q : List (α × β)} {z : α × β} {j : Nat} (h : j < q.length) (hp : p (ix z q (j : Int)).1 = true) : fl p (q.take (j + 1)) = fl p (q.take j) := by
  rw [take_ix (z := z) h, fl, List.filter_append]; simp [fl, hp]
theorem fidx_cases {α : Type} (p : α → Bool) (z : α) : ∀ (xs : List α) (n : Int), (fidx p xs n = -1 ∧ ∀ x ∈ xs, p x = false) ∨ ∃ i : Nat, fidx p xs n = n + i ∧ i < xs.length ∧ p (ix z xs (i : Int)) = true ∧ ∀ x ∈ xs.take i, p x = false
  | [], n => .inl ⟨rfl, by simp⟩
  | x :: xs, n => by
    rw [fidx]
    by_cases h : p x = true
    · rw [if_pos h]
      exact .inr ⟨0, by simp, by simp, by simpa [ix] using h, by simp⟩
    · rw [if_neg h]
      have h' : p x = false := by simpa using h
      rcases fidx_cases p z xs (n + 1) with ⟨h1, h2⟩ | ⟨i, h1, h2, h3, h4⟩
      · exact .inl ⟨h1, fun y hy => by rcases List.mem_cons.1 hy with rfl | hy; exact h'; exact h2 y hy⟩
      · refine .inr ⟨i + 1, by rw [h1]; omega, by simpa using h2, by simpa [ix] using h3, fun y hy => ?_⟩
        rw [List.take_succ_cons] at hy
        rcases List.mem_cons.1 hy with rfl | hy
        · exact h'
        · exact h4 y hy
theorem ix_map {α β : Type} {f : α → β} {z : α} {z' : β} {q : List α} {i : Nat} (h : i < q.length) : ix z' (q.map f) (i : Int) = f (ix z q (i : Int)) := by
  simp [ix, List.getD_eq_getElem?_getD, h]
theorem ix_appr {α : Type} {z : α} {k q : List α} {j : Nat} (h : k.length ≤ j) : ix z (k ++ q.drop k.length) (j : Int) = ix z q (j : Int) := by
  simp only [ix, List.getD_eq_getElem?_getD, Int.toNat_natCast]
  rw [List.getElem?_append_right h, List.getElem?_drop]
  congr 2; omega
theorem fl_first {α β : Type} {p : α → Bool} {q : List (α × β)} {i : Nat} (h : ∀ x ∈ (q.map (·.1)).take i, p x = false) : fl p (q.take i) = q.take i := by
  rw [fl, List.filter_eq_self]
  intro x hx
  have : x.1 ∈ (q.map (·.1)).take i := by rw [← List.map_take]; exact List.mem_map_of_mem hx
  simp [h _ this]
theorem set_keep {α : Type} {k q : List α} {x : α} (h : k.length < q.length) : (k ++ q.drop k.length).set k.length x = (k ++ [x]) ++ q.drop (k.length + 1) := by
  rw [List.set_append_right _ _ (Nat.le_refl _), Nat.sub_self, List.drop_eq_getElem_cons h, List.set_cons_zero]; simp
theorem flatMap_perm {α β : Type} {f : α → List β} {a b : List α} (h : a.Perm b) : (a.flatMap f).Perm (b.flatMap f) := by
  induction h with
  | nil => exact .refl _
  | cons x _ ih => simp only [List.flatMap_cons]; exact ih.append_left _
  | swap x y l =>
    simp only [List.flatMap_cons]
    rw [← List.append_assoc, ← List.append_assoc]
    exact List.perm_append_comm.append_right _
  | trans _ _ ih1 ih2 => exact ih1.trans ih2
theorem fl_perm {ts : Tys} (p : ts.den → Bool) (q : An ts) : (An.e (fl p q) ++ An.e (q.filter fun z => p z.1)).Perm (An.e q ++ []) := by
  rw [List.append_nil, ← An.e_app]
  refine flatMap_perm ?_
  have := List.filter_append_perm (fun z : ts.den × ts.raw.den => !p z.1) q
  simpa [fl] using this
theorem fl_ok {ts : Tys} {p : ts.den → Bool} {q : An ts} (h : An.ok q) : An.ok (fl p q) := fun x hx => h x (List.mem_filter.1 hx).1
theorem pext_all {α : Type} {xs : List (Option α)} {h : Nat} {ys : List α} (hl : h ≤ xs.length) (he : xs.take h = ys.map some) : pext xs h = ys.map some := by
  rw [pext, he, show h - xs.length = 0 by omega]; simp
theorem filter_none {α : Type} {p : α → Bool} {xs : List α} (h : ∀ x ∈ xs, p x = false) : xs = xs.filter (fun x => !p x) := by
  symm; rw [List.filter_eq_self]; intro x hx; simp [h x hx]
theorem mem_e {ts : Tys} {q : An ts} {x : ts.den × ts.raw.den} {e : Pe} (h : x ∈ q) (he : e ∈ ents ts x.1 x.2) : e ∈ An.e q := List.mem_flatMap.2 ⟨x, h, he⟩
theorem r_len {ts : Tys} (q : An ts) : (An.r q).length = q.length := by simp [An.r]

theorem c_impl_find_1 : Fe Go.Proofs.Try.prog 160 (ι := KRLSzSz.den × StrS) (fun | (x, p) => [.agg (avs 2 KRLSzSz x), .rp (.cons (.l KS) .nil) (p, ())]) (fun | (x, p) => []) (fun | (x, p) => True) (fun | (x, p) => (.c .b (decide (x.1 = p)), [])) := by
  refine fnE (n := 8) Go.Proofs.Try.func160 rfl rfl (ent Go.Proofs.Try.func160 (by kernel_rfl) rfl) ?_
  rintro ⟨x, p⟩ hx
  refine ⟨Le rfl, fun w0 S0 H Z hH => ?_⟩
  try simp only [] at hx
  refine cseq ?_
  refine creg ?_
  refine e1 (av := .bp 0 0) (sboxn rfl rfl) ?_
  refine o1 (asn rfl) ?_
  refine onil ?_
  refine xthn ?_
  refine cseq ?_
  refine creg ?_
  refine o1 (fab rfl fi94_0) ?_
  refine o1 (ldb rfl rfl rfl ti40) ?_
  refine o1 (ldr rfl ti40) ?_
  refine ce c_slices_Equal_string_string (_, _) [] [] (.c rfl (.c (.e rfl)) (.c rfl (.c (.e rfl)) (.n))) (by first | trivial | assumption | omega | (simp only []; omega) | (refine ?_; omega) | (constructor <;> omega) | (refine ⟨?_, ?_⟩ <;> (first | assumption | omega | (simp; omega)))) (by decide) (by decide) (.n) rfl (.inl rfl) ?_ (.inl rfl)
  refine o1 (asn rfl) ?_
  refine onil ?_
  refine xthn ?_
  refine cret ?_
  refine retg (bs := [.c .b (decide (x.1 = p))]) (ob' := []) [] rfl (.t rfl (.n)) (by decide) (hk hH rfl) (.n) (lc (cq ?_) rfl) rfl
  all_goals first | rfl | (rfl)

theorem c_slices_IndexFunc_impl_Leaf_impl_Leaf_find : Fe Go.Proofs.Try.prog 159 (ι := List KRLSzSz.den × StrS) (fun | (a, p) => [.c (.l KRLSzSz) a, .fn 160 [.rp (.cons (.l KS) .nil) (p, ())]]) (fun | (a, p) => []) (fun | (a, p) => True) (fun | (a, p) => (.c (.i .i64) (fidx (fun x : KRLSzSz.den => decide (x.1 = p)) a 0), [])) := by
  refine fnE (n := 19) Go.Proofs.Try.func159 rfl rfl (ent Go.Proofs.Try.func159 (by kernel_rfl) rfl) ?_
  rintro ⟨a, p⟩ hx
  refine ⟨Le rfl, fun w0 S0 H Z hH => ?_⟩
  try simp only [] at hx
  refine cseq ?_
  refine creg ?_
  refine o1 (asn rfl) ?_
  refine onil ?_
  refine xthn ?_
  refine cseq ?_
  refine cseq ?_
  refine creg ?_
  refine o1 (mv rfl) ?_
  refine ofact (t := 6) rfl fun hl1 => ?_
  refine o1 (lenl rfl li26) ?_
  refine o1 (mv rfl) ?_
  refine onil ?_
  refine xthn ?_
  refine cblock ?_
  refine clk (ι := Nat) (.c 0 rfl (.c 1 rfl (.c 7 rfl (.n)))) (fun i r => (8, .c (.i .i64) ((i : Int))) :: r) (fun i r => r) (fun i => i ≤ a.length ∧ fidx (fun x : KRLSzSz.den => decide (x.1 = p)) a 0 = fidx (fun x : KRLSzSz.den => decide (x.1 = p)) (a.drop i) (i : Int)) (fun i => a.length - i) 0 (by simp) (weak [] (by decide) (hk hH rfl) (by repeat (first | exact .n | refine .c rfl (by first | rfl) ?_)) (by repeat (first | exact .n | refine .c rfl (by first | rfl) ?_))) ?_
  rintro i i0
  try simp only [] at i0
  refine cseq ?_
  refine creg ?_
  refine o1 (ibin rfl rfl rfl) ?_
  refine onil ?_
  refine xthn ?_
  refine cseq ?_
  refine ccond rfl (fun c1 => ?_) (fun c1 => ?_)
  · try simp only [q1, q2, q3, q4, q5, q6, q7, q8, q9, q10, q11, q12, q13, q14, q15, q16, q17] at c1
    refine cskip ?_
    refine xthn ?_
    refine cseq ?_
    refine cblock ?_
    refine cseq ?_
    refine creg ?_
    refine o1 (mv rfl) ?_
    refine o1 (asn rfl) ?_
    refine onil ?_
    refine xthn ?_
    refine cseq ?_
    refine creg ?_
    refine o1 (mv rfl) ?_
    refine o1 (mv rfl) ?_
    refine o1 (mv rfl) ?_
    refine o1 (ixl rfl rfl li26 rfl (by first | omega | (simp only [List.length_cons, List.length_nil, List.length_append]; omega) | (simp; omega)) (by first | omega | (simp only [List.length_cons, List.length_nil, List.length_append]; omega) | (simp; omega))) ?_
    refine o1 (ldrn rfl ti94 (Le rfl)) ?_
    refine vce c_impl_find_1 (_, _) [] [] rfl 1 (.c rfl (.c (.e rfl)) (.n)) (.c (.a (.e rfl)) (.n)) (by first | trivial | assumption | omega | (simp only []; omega) | (refine ?_; omega) | (constructor <;> omega) | (refine ⟨?_, ?_⟩ <;> (first | assumption | omega | (simp; omega)))) (by decide) (by decide) (.n) rfl (.inl rfl) ?_ (.inl rfl)
    refine onil ?_
    refine xthn ?_
    refine ccond rfl (fun c2 => ?_) (fun c2 => ?_)
    · try simp only [q1, q2, q3, q4, q5, q6, q7, q8, q9, q10, q11, q12, q13, q14, q15, q16, q17] at c2
      refine cseq ?_
      refine creg ?_
      refine o1 (mv rfl) ?_
      refine o1 (asn rfl) ?_
      refine onil ?_
      refine xthn ?_
      refine cret ?_
      refine xbr ?_
      refine xthr ?_
      refine xlr ?_
      refine xbr ?_
      refine xthr ?_
      refine retg (bs := [.c (.i .i64) (fidx (fun x : KRLSzSz.den => decide (x.1 = p)) a 0)]) (ob' := []) [] rfl (.t rfl (.n)) (by decide) (hk hH rfl) (.n) (lc (ciq ?_) rfl) rfl
      all_goals first | rfl | (rw [i0.2, drop_ix (xs := a) (i := i) (z := KRLSzSz.z) (by omega), fidx, if_pos (by simpa using c2)])
    · try simp only [q1, q2, q3, q4, q5, q6, q7, q8, q9, q10, q11, q12, q13, q14, q15, q16, q17] at c2
      refine cskip ?_
      refine xbn ?_
      refine xthn ?_
      refine creg ?_
      refine o1 (iadd rfl rfl (by first | omega | (simp only [List.length_cons, List.length_nil, List.length_append]; omega) | (simp; omega)) (by first | omega | (simp only [List.length_cons, List.length_nil, List.length_append]; omega) | (simp; omega))) ?_
      refine o1 (mv rfl) ?_
      refine onil ?_
      refine xlq (i + 1) (by refine ⟨by omega, ?_⟩; rw [i0.2, drop_ix (xs := a) (i := i) (z := KRLSzSz.z) (by omega), fidx, if_neg (by simpa using c2)]; rfl) (by first | omega | (simp only []; omega)) (weak [] (by decide) (hk hH rfl) (by repeat (first | exact .n | refine .c rfl (by first | rfl) ?_)) (by repeat (first | exact .n | refine .c rfl (by first | rfl) ?_)))
  · try simp only [q1, q2, q3, q4, q5, q6, q7, q8, q9, q10, q11, q12, q13, q14, q15, q16, q17] at c1
    refine cexit ?_
    refine xthe ?_
    refine xle ?_
    refine xbh ?_
    refine xthn ?_
    refine cseq ?_
    refine creg ?_
    refine o1 (asn rfl) ?_
    refine onil ?_
    refine xthn ?_
    refine cret ?_
    refine retg (bs := [.c (.i .i64) (fidx (fun x : KRLSzSz.den => decide (x.1 = p)) a 0)]) (ob' := []) [] rfl (.t rfl (.n)) (by decide) (hk hH rfl) (.n) (lc (ciq ?_) rfl) rfl
    all_goals first | rfl | (rw [i0.2, drop_nil (xs := a) (i := i) (by omega), fidx])

theorem c_impl_find : Fe Go.Proofs.Try.prog 127 (ι := Leafs × StrS) (fun | (l, p) => [.c (.l KRLSzSz) l, .c (.l KS) p]) (fun | (l, p) => []) (fun | (l, p) => True) (fun | (l, p) => (.c (.i .i64) (fidx (fun x : KRLSzSz.den => decide (x.1 = p)) l 0), [])) := by
  refine fnE (n := 8) Go.Proofs.Try.func127 rfl rfl (ent Go.Proofs.Try.func127 (by kernel_rfl) rfl) ?_
  rintro ⟨l, p⟩ hx
  refine ⟨Le rfl, fun w0 S0 H Z hH => ?_⟩
  try simp only [] at hx
  refine cseq ?_
  refine creg ?_
  refine e1 (av := .bp 0 0) (sbox rfl rfl) ?_
  refine o1 (asn rfl) ?_
  refine onil ?_
  refine xthn ?_
  refine cseq ?_
  refine creg ?_
  refine o1 (mv rfl) ?_
  refine o1 (mkf (.c rfl .n)) ?_
  refine ce c_slices_IndexFunc_impl_Leaf_impl_Leaf_find (_, _) [] [0] (.c rfl (.c (.e rfl)) (.c rfl (.f (.c (.b (k := 0) (by decide) rfl rfl rfl (.c (.e rfl) (.n))) (.n))) (.n))) (by first | trivial | assumption | omega | (simp only []; omega) | (refine ?_; omega) | (constructor <;> omega) | (refine ⟨?_, ?_⟩ <;> (first | assumption | omega | (simp; omega)))) (by decide) (by decide) (.n) rfl (.inr ⟨rfl, by simp [Ob.free]⟩) ?_ (.inl rfl)
  refine o1 (asn rfl) ?_
  refine onil ?_
  refine xthn ?_
  refine cret ?_
  refine retg (bs := [.c (.i .i64) (fidx (fun x : KRLSzSz.den => decide (x.1 = p)) l 0)]) (ob' := []) [] rfl (.t rfl (.n)) (by decide) (hk hH rfl) (.n) (lc (ciq ?_) rfl) rfl
  all_goals first | rfl | (rfl)

theorem c_impl_setAt_1 : Fe Go.Proofs.Try.prog 162 (ι := KRLSzSz.den × StrS) (fun | (x, p) => [.agg (avs 2 KRLSzSz x), .rp (.cons (.l KS) .nil) (p, ())]) (fun | (x, p) => []) (fun | (x, p) => True) (fun | (x, p) => (.c .b (beg x.1 p || beg p x.1), [])) := by
  refine fnE (n := 14) Go.Proofs.Try.func162 rfl rfl (ent Go.Proofs.Try.func162 (by kernel_rfl) rfl) ?_
  rintro ⟨x, p⟩ hx
  refine ⟨Le rfl, fun w0 S0 H Z hH => ?_⟩
  try simp only [] at hx
  refine cseq ?_
  refine creg ?_
  refine e1 (av := .bp 0 0) (sboxn rfl rfl) ?_
  refine o1 (asn rfl) ?_
  refine onil ?_
  refine xthn ?_
  refine cseq ?_
  refine creg ?_
  refine o1 (fab rfl fi94_0) ?_
  refine o1 (ldb rfl rfl rfl ti40) ?_
  refine o1 (ldr rfl ti40) ?_
  refine ce c_impl_begins (_, _) [] [] (.c rfl (.c (.e rfl)) (.c rfl (.c (.e rfl)) (.n))) (by first | trivial | assumption | omega | (simp only []; omega) | (refine ?_; omega) | (constructor <;> omega) | (refine ⟨?_, ?_⟩ <;> (first | assumption | omega | (simp; omega)))) (by decide) (by decide) (.n) rfl (.inl rfl) ?_ (.inl rfl)
  refine o1 (mv rfl) ?_
  refine ocase (t := 8) rfl (fun c1 => ?_) (fun c1 => ?_)
  · try simp only [q1, q2, q3, q4, q5, q6, q7, q8, q9, q10, q11, q12, q13, q14, q15, q16, q17] at c1
    refine os rfl ?_
    refine os rfl ?_
    refine os rfl ?_
    refine os rfl ?_
    refine o1 (pickT rfl rfl) ?_
    refine o1 (asn rfl) ?_
    refine onil ?_
    refine xthn ?_
    refine cret ?_
    refine retg (bs := [.c .b (beg x.1 p || beg p x.1)]) (ob' := []) [] rfl (.t rfl (.n)) (by decide) (hk hH rfl) (.n) (lc (cq ?_) rfl) rfl
    all_goals first | rfl | (simp [c1])
  · try simp only [q1, q2, q3, q4, q5, q6, q7, q8, q9, q10, q11, q12, q13, q14, q15, q16, q17] at c1
    refine og (ldr rfl ti40) ?_
    refine og (fab rfl fi94_0) ?_
    refine og (ldb rfl rfl rfl ti40) ?_
    refine ce c_impl_begins (_, _) [] [] (.c rfl (.c (.e rfl)) (.c rfl (.c (.e rfl)) (.n))) (by first | trivial | assumption | omega | (simp only []; omega) | (refine ?_; omega) | (constructor <;> omega) | (refine ⟨?_, ?_⟩ <;> (first | assumption | omega | (simp; omega)))) (by decide) (by decide) (.n) rfl (.inl rfl) ?_ (wgd rfl rfl rfl)
    refine o1 (pickF rfl rfl) ?_
    refine o1 (asn rfl) ?_
    refine onil ?_
    refine xthn ?_
    refine cret ?_
    refine xwk (wnorm (.c (o := .box _ _) rfl (.n)) rfl) ?_
    refine retg (bs := [.c .b (beg x.1 p || beg p x.1)]) (ob' := []) [] rfl (.t rfl (.n)) (by decide) (hk hH rfl) (.n) (lc (cq ?_) rfl) rfl
    all_goals first | rfl | (simp [c1])

theorem c_impl_DeleteAt_1 : Fe Go.Proofs.Try.prog 132 (ι := KRLSzSz.den × StrS) (fun | (x, p) => [.agg (avs 2 KRLSzSz x), .rp (.cons (.l KS) .nil) (p, ())]) (fun | (x, p) => []) (fun | (x, p) => True) (fun | (x, p) => (.c .b (beg p x.1), [])) := by
  refine fnE (n := 8) Go.Proofs.Try.func132 rfl rfl (ent Go.Proofs.Try.func132 (by kernel_rfl) rfl) ?_
  rintro ⟨x, p⟩ hx
  refine ⟨Le rfl, fun w0 S0 H Z hH => ?_⟩
  try simp only [] at hx
  refine cseq ?_
  refine creg ?_
  refine e1 (av := .bp 0 0) (sboxn rfl rfl) ?_
  refine o1 (asn rfl) ?_
  refine onil ?_
  refine xthn ?_
  refine cseq ?_
  refine creg ?_
  refine o1 (ldr rfl ti40) ?_
  refine o1 (fab rfl fi94_0) ?_
  refine o1 (ldb rfl rfl rfl ti40) ?_
  refine ce c_impl_begins (_, _) [] [] (.c rfl (.c (.e rfl)) (.c rfl (.c (.e rfl)) (.n))) (by first | trivial | assumption | omega | (simp only []; omega) | (refine ?_; omega) | (constructor <;> omega) | (refine ⟨?_, ?_⟩ <;> (first | assumption | omega | (simp; omega)))) (by decide) (by decide) (.n) rfl (.inl rfl) ?_ (.inl rfl)
  refine o1 (asn rfl) ?_
  refine onil ?_
  refine xthn ?_
  refine cret ?_
  refine retg (bs := [.c .b (beg p x.1)]) (ob' := []) [] rfl (.t rfl (.n)) (by decide) (hk hH rfl) (.n) (lc (cq ?_) rfl) rfl
  all_goals first | rfl | (rfl)

theorem c_slices_IndexFunc_impl_Leaf_impl_Leaf_setAt : Fe Go.Proofs.Try.prog 159 (ι := List KRLSzSz.den × StrS) (fun | (a, p) => [.c (.l KRLSzSz) a, .fn 162 [.rp (.cons (.l KS) .nil) (p, ())]]) (fun | (a, p) => []) (fun | (a, p) => True) (fun | (a, p) => (.c (.i .i64) (fidx (fun x : KRLSzSz.den => beg x.1 p || beg p x.1) a 0), [])) := by
  refine fnE (n := 19) Go.Proofs.Try.func159 rfl rfl (ent Go.Proofs.Try.func159 (by kernel_rfl) rfl) ?_
  rintro ⟨a, p⟩ hx
  refine ⟨Le rfl, fun w0 S0 H Z hH => ?_⟩
  try simp only [] at hx
  refine cseq ?_
  refine creg ?_
  refine o1 (asn rfl) ?_
  refine onil ?_
  refine xthn ?_
  refine cseq ?_
  refine cseq ?_
  refine creg ?_
  refine o1 (mv rfl) ?_
  refine ofact (t := 6) rfl fun hl1 => ?_
  refine o1 (lenl rfl li26) ?_
  refine o1 (mv rfl) ?_
  refine onil ?_
  refine xthn ?_
  refine cblock ?_
  refine clk (ι := Nat) (.c 0 rfl (.c 1 rfl (.c 7 rfl (.n)))) (fun i r => (8, .c (.i .i64) ((i : Int))) :: r) (fun i r => r) (fun i => i ≤ a.length ∧ fidx (fun x : KRLSzSz.den => beg x.1 p || beg p x.1) a 0 = fidx (fun x : KRLSzSz.den => beg x.1 p || beg p x.1) (a.drop i) (i : Int)) (fun i => a.length - i) 0 (by simp) (weak [] (by decide) (hk hH rfl) (by repeat (first | exact .n | refine .c rfl (by first | rfl) ?_)) (by repeat (first | exact .n | refine .c rfl (by first | rfl) ?_))) ?_
  rintro i i0
  try simp only [] at i0
  refine cseq ?_
  refine creg ?_
  refine o1 (ibin rfl rfl rfl) ?_
  refine onil ?_
  refine xthn ?_
  refine cseq ?_
  refine ccond rfl (fun c1 => ?_) (fun c1 => ?_)
  · try simp only [q1, q2, q3, q4, q5, q6, q7, q8, q9, q10, q11, q12, q13, q14, q15, q16, q17] at c1
    refine cskip ?_
    refine xthn ?_
    refine cseq ?_
    refine cblock ?_
    refine cseq ?_
    refine creg ?_
    refine o1 (mv rfl) ?_
    refine o1 (asn rfl) ?_
    refine onil ?_
    refine xthn ?_
    refine cseq ?_
    refine creg ?_
    refine o1 (mv rfl) ?_
    refine o1 (mv rfl) ?_
    refine o1 (mv rfl) ?_
    refine o1 (ixl rfl rfl li26 rfl (by first | omega | (simp only [List.length_cons, List.length_nil, List.length_append]; omega) | (simp; omega)) (by first | omega | (simp only [List.length_cons, List.length_nil, List.length_append]; omega) | (simp; omega))) ?_
    refine o1 (ldrn rfl ti94 (Le rfl)) ?_
    refine vce c_impl_setAt_1 (_, _) [] [] rfl 1 (.c rfl (.c (.e rfl)) (.n)) (.c (.a (.e rfl)) (.n)) (by first | trivial | assumption | omega | (simp only []; omega) | (refine ?_; omega) | (constructor <;> omega) | (refine ⟨?_, ?_⟩ <;> (first | assumption | omega | (simp; omega)))) (by decide) (by decide) (.n) rfl (.inl rfl) ?_ (.inl rfl)
    refine onil ?_
    refine xthn ?_
    refine ccond rfl (fun c2 => ?_) (fun c2 => ?_)
    · try simp only [q1, q2, q3, q4, q5, q6, q7, q8, q9, q10, q11, q12, q13, q14, q15, q16, q17] at c2
      refine cseq ?_
      refine creg ?_
      refine o1 (mv rfl) ?_
      refine o1 (asn rfl) ?_
      refine onil ?_
      refine xthn ?_
      refine cret ?_
      refine xbr ?_
      refine xthr ?_
      refine xlr ?_
      refine xbr ?_
      refine xthr ?_
      refine retg (bs := [.c (.i .i64) (fidx (fun x : KRLSzSz.den => beg x.1 p || beg p x.1) a 0)]) (ob' := []) [] rfl (.t rfl (.n)) (by decide) (hk hH rfl) (.n) (lc (ciq ?_) rfl) rfl
      all_goals first | rfl | (rw [i0.2, drop_ix (xs := a) (i := i) (z := KRLSzSz.z) (by omega), fidx, if_pos (by simpa using c2)])
    · try simp only [q1, q2, q3, q4, q5, q6, q7, q8, q9, q10, q11, q12, q13, q14, q15, q16, q17] at c2
      refine cskip ?_
      refine xbn ?_
      refine xthn ?_
      refine creg ?_
      refine o1 (iadd rfl rfl (by first | omega | (simp only [List.length_cons, List.length_nil, List.length_append]; omega) | (simp; omega)) (by first | omega | (simp only [List.length_cons, List.length_nil, List.length_append]; omega) | (simp; omega))) ?_
      refine o1 (mv rfl) ?_
      refine onil ?_
      refine xlq (i + 1) (by refine ⟨by omega, ?_⟩; rw [i0.2, drop_ix (xs := a) (i := i) (z := KRLSzSz.z) (by omega), fidx, if_neg (by simpa using c2)]; rfl) (by first | omega | (simp only []; omega)) (weak [] (by decide) (hk hH rfl) (by repeat (first | exact .n | refine .c rfl (by first | rfl) ?_)) (by repeat (first | exact .n | refine .c rfl (by first | rfl) ?_)))
  · try simp only [q1, q2, q3, q4, q5, q6, q7, q8, q9, q10, q11, q12, q13, q14, q15, q16, q17] at c1
    refine cexit ?_
    refine xthe ?_
    refine xle ?_
    refine xbh ?_
    refine xthn ?_
    refine cseq ?_
    refine creg ?_
    refine o1 (asn rfl) ?_
    refine onil ?_
    refine xthn ?_
    refine cret ?_
    refine retg (bs := [.c (.i .i64) (fidx (fun x : KRLSzSz.den => beg x.1 p || beg p x.1) a 0)]) (ob' := []) [] rfl (.t rfl (.n)) (by decide) (hk hH rfl) (.n) (lc (ciq ?_) rfl) rfl
    all_goals first | rfl | (rw [i0.2, drop_nil (xs := a) (i := i) (by omega), fidx])

theorem c_slices_IndexFunc_impl_Leaf_impl_Leaf_DeleteAt : Fe Go.Proofs.Try.prog 159 (ι := List KRLSzSz.den × StrS) (fun | (a, p) => [.c (.l KRLSzSz) a, .fn 132 [.rp (.cons (.l KS) .nil) (p, ())]]) (fun | (a, p) => []) (fun | (a, p) => True) (fun | (a, p) => (.c (.i .i64) (fidx (fun x : KRLSzSz.den => beg p x.1) a 0), [])) := by
  refine fnE (n := 19) Go.Proofs.Try.func159 rfl rfl (ent Go.Proofs.Try.func159 (by kernel_rfl) rfl) ?_
  rintro ⟨a, p⟩ hx
  refine ⟨Le rfl, fun w0 S0 H Z hH => ?_⟩
  try simp only [] at hx
  refine cseq ?_
  refine creg ?_
  refine o1 (asn rfl) ?_
  refine onil ?_
  refine xthn ?_
  refine cseq ?_
  refine cseq ?_
  refine creg ?_
  refine o1 (mv rfl) ?_
  refine ofact (t := 6) rfl fun hl1 => ?_
  refine o1 (lenl rfl li26) ?_
  refine o1 (mv rfl) ?_
  refine onil ?_
  refine xthn ?_
  refine cblock ?_
  refine clk (ι := Nat) (.c 0 rfl (.c 1 rfl (.c 7 rfl (.n)))) (fun i r => (8, .c (.i .i64) ((i : Int))) :: r) (fun i r => r) (fun i => i ≤ a.length ∧ fidx (fun x : KRLSzSz.den => beg p x.1) a 0 = fidx (fun x : KRLSzSz.den => beg p x.1) (a.drop i) (i : Int)) (fun i => a.length - i) 0 (by simp) (weak [] (by decide) (hk hH rfl) (by repeat (first | exact .n | refine .c rfl (by first | rfl) ?_)) (by repeat (first | exact .n | refine .c rfl (by first | rfl) ?_))) ?_
  rintro i i0
  try simp only [] at i0
  refine cseq ?_
  refine creg ?_
  refine o1 (ibin rfl rfl rfl) ?_
  refine onil ?_
  refine xthn ?_
  refine cseq ?_
  refine ccond rfl (fun c1 => ?_) (fun c1 => ?_)
  · try simp only [q1, q2, q3, q4, q5, q6, q7, q8, q9, q10, q11, q12, q13, q14, q15, q16, q17] at c1
    refine cskip ?_
    refine xthn ?_
    refine cseq ?_
    refine cblock ?_
    refine cseq ?_
    refine creg ?_
    refine o1 (mv rfl) ?_
    refine o1 (asn rfl) ?_
    refine onil ?_
    refine xthn ?_
    refine cseq ?_
    refine creg ?_
    refine o1 (mv rfl) ?_
    refine o1 (mv rfl) ?_
    refine o1 (mv rfl) ?_
    refine o1 (ixl rfl rfl li26 rfl (by first | omega | (simp only [List.length_cons, List.length_nil, List.length_append]; omega) | (simp; omega)) (by first | omega | (simp only [List.length_cons, List.length_nil, List.length_append]; omega) | (simp; omega))) ?_
    refine o1 (ldrn rfl ti94 (Le rfl)) ?_
    refine vce c_impl_DeleteAt_1 (_, _) [] [] rfl 1 (.c rfl (.c (.e rfl)) (.n)) (.c (.a (.e rfl)) (.n)) (by first | trivial | assumption | omega | (simp only []; omega) | (refine ?_; omega) | (constructor <;> omega) | (refine ⟨?_, ?_⟩ <;> (first | assumption | omega | (simp; omega)))) (by decide) (by decide) (.n) rfl (.inl rfl) ?_ (.inl rfl)
    refine onil ?_
    refine xthn ?_
    refine ccond rfl (fun c2 => ?_) (fun c2 => ?_)
    · try simp only [q1, q2, q3, q4, q5, q6, q7, q8, q9, q10, q11, q12, q13, q14, q15, q16, q17] at c2
      refine cseq ?_
      refine creg ?_
      refine o1 (mv rfl) ?_
      refine o1 (asn rfl) ?_
      refine onil ?_
      refine xthn ?_
      refine cret ?_
      refine xbr ?_
      refine xthr ?_
      refine xlr ?_
      refine xbr ?_
      refine xthr ?_
      refine retg (bs := [.c (.i .i64) (fidx (fun x : KRLSzSz.den => beg p x.1) a 0)]) (ob' := []) [] rfl (.t rfl (.n)) (by decide) (hk hH rfl) (.n) (lc (ciq ?_) rfl) rfl
      all_goals first | rfl | (rw [i0.2, drop_ix (xs := a) (i := i) (z := KRLSzSz.z) (by omega), fidx, if_pos (by simpa using c2)])
    · try simp only [q1, q2, q3, q4, q5, q6, q7, q8, q9, q10, q11, q12, q13, q14, q15, q16, q17] at c2
      refine cskip ?_
      refine xbn ?_
      refine xthn ?_
      refine creg ?_
      refine o1 (iadd rfl rfl (by first | omega | (simp only [List.length_cons, List.length_nil, List.length_append]; omega) | (simp; omega)) (by first | omega | (simp only [List.length_cons, List.length_nil, List.length_append]; omega) | (simp; omega))) ?_
      refine o1 (mv rfl) ?_
      refine onil ?_
      refine xlq (i + 1) (by refine ⟨by omega, ?_⟩; rw [i0.2, drop_ix (xs := a) (i := i) (z := KRLSzSz.z) (by omega), fidx, if_neg (by simpa using c2)]; rfl) (by first | omega | (simp only []; omega)) (weak [] (by decide) (hk hH rfl) (by repeat (first | exact .n | refine .c rfl (by first | rfl) ?_)) (by repeat (first | exact .n | refine .c rfl (by first | rfl) ?_)))
  · try simp only [q1, q2, q3, q4, q5, q6, q7, q8, q9, q10, q11, q12, q13, q14, q15, q16, q17] at c1
    refine cexit ?_
    refine xthe ?_
    refine xle ?_
    refine xbh ?_
    refine xthn ?_
    refine cseq ?_
    refine creg ?_
    refine o1 (asn rfl) ?_
    refine onil ?_
    refine xthn ?_
    refine cret ?_
    refine retg (bs := [.c (.i .i64) (fidx (fun x : KRLSzSz.den => beg p x.1) a 0)]) (ob' := []) [] rfl (.t rfl (.n)) (by decide) (hk hH rfl) (.n) (lc (ciq ?_) rfl) rfl
    all_goals first | rfl | (rw [i0.2, drop_nil (xs := a) (i := i) (by omega), fidx])

theorem c_slices_DeleteFunc_impl_Leaf_impl_Leaf_setAt : Fe Go.Proofs.Try.prog 131 (ι := List KRLSzSz.den × StrS) (fun | (a, p) => [.own 0, .fn 162 [.rp (.cons (.l KS) .nil) (p, ())]]) (fun | (a, p) => [.arr true 94 KRLSzSz a]) (fun | (a, p) => a.length ≤ 1048576) (fun | (a, p) => (.own 1, [.hed, .arr true 94 KRLSzSz (a.filter fun x => !(fun x : KRLSzSz.den => beg x.1 p || beg p x.1) x)])) := by
  refine fnE (n := 42) Go.Proofs.Try.func131 rfl rfl (ent Go.Proofs.Try.func131 (by kernel_rfl) rfl) ?_
  rintro ⟨a, p⟩ hx
  refine ⟨Le rfl, fun w0 S0 H Z hH => ?_⟩
  try simp only [] at hx
  refine cseq ?_
  refine creg ?_
  refine o1 (asn rfl) ?_
  refine onil ?_
  refine xthn ?_
  refine cseq ?_
  refine creg ?_
  refine o1 (mv rfl) ?_
  refine o1 (mv rfl) ?_
  refine ce c_slices_IndexFunc_impl_Leaf_impl_Leaf_setAt (_, _) [] [0] (.c rfl (.c (.o (k := 0) (by decide) rfl)) (.c rfl (.c (.e rfl)) (.n))) (by first | trivial | assumption | omega | (simp only []; omega) | (refine ?_; omega) | (constructor <;> omega) | (refine ⟨?_, ?_⟩ <;> (first | assumption | omega | (simp; omega)))) (by decide) (by decide) (.n) rfl (.inr ⟨rfl, by simp [Ob.free]⟩) ?_ (.inl rfl)
  refine o1 (asn rfl) ?_
  refine onil ?_
  refine xthn ?_
  refine cseq ?_
  refine cseq ?_
  refine creg ?_
  refine o1 (mv rfl) ?_
  refine o1 (ibin rfl rfl rfl) ?_
  refine onil ?_
  refine xthn ?_
  refine ccond rfl (fun c1 => ?_) (fun c1 => ?_)
  · repeat (first | simp only [decide_eq_true_eq] at c1 | simp only [decide_eq_false_iff_not] at c1 | simp only [beq_iff_eq] at c1 | simp only [bne_iff_ne] at c1 | simp only [Bool.not_eq_true'] at c1 | simp only [Bool.not_eq_false'] at c1 | simp only [beq_eq_false_iff_ne] at c1 | simp only [bne_eq_false_iff_eq] at c1 | simp only [Bool.not_not] at c1 | simp only [ne_eq] at c1 | simp only [Int.not_lt] at c1 | simp only [Int.not_le] at c1 | simp only [gt_iff_lt] at c1 | simp only [ge_iff_le] at c1 | simp only [Bool.not_eq_true] at c1 | simp only [Bool.not_eq_false] at c1 | simp only [Decidable.not_not] at c1)
    have hno := (fidx_cases (fun x : KRLSzSz.den => beg x.1 p || beg p x.1) KRLSzSz.z a 0).elim (fun h => h.2) (fun ⟨i, h⟩ => by have h3 := h.1; have h4 : fidx (fun x : KRLSzSz.den => beg x.1 p || beg p x.1) a 0 = -1 := c1; omega)
    refine cseq ?_
    refine creg ?_
    refine o1 (mv rfl) ?_
    refine o1 (asn rfl) ?_
    refine onil ?_
    refine xthn ?_
    refine cret ?_
    refine xthr ?_
    refine xwk (wmv (t := 4) (k := 0) rfl rfl) ?_
    refine retg (bs := [.own 1]) (ob' := [.hed, .arr true 94 KRLSzSz (a.filter fun x => !(fun x : KRLSzSz.den => beg x.1 p || beg p x.1) x)]) [0, 1] rfl (.t rfl (.n)) (by decide) (hk hH rfl) (.c rfl rfl (.c rfl (arq ?_) (.n))) (lc rfl rfl) rfl
    all_goals first | rfl | (exact filter_none hno)
  · repeat (first | simp only [decide_eq_true_eq] at c1 | simp only [decide_eq_false_iff_not] at c1 | simp only [beq_iff_eq] at c1 | simp only [bne_iff_ne] at c1 | simp only [Bool.not_eq_true'] at c1 | simp only [Bool.not_eq_false'] at c1 | simp only [beq_eq_false_iff_ne] at c1 | simp only [bne_eq_false_iff_eq] at c1 | simp only [Bool.not_not] at c1 | simp only [ne_eq] at c1 | simp only [Int.not_lt] at c1 | simp only [Int.not_le] at c1 | simp only [gt_iff_lt] at c1 | simp only [ge_iff_le] at c1 | simp only [Bool.not_eq_true] at c1 | simp only [Bool.not_eq_false] at c1 | simp only [Decidable.not_not] at c1)
    obtain ⟨m0, hi1, hi2, hi3, hi4⟩ : ∃ m0 : Nat, fidx (fun x : KRLSzSz.den => beg x.1 p || beg p x.1) a 0 = (m0 : Int) ∧ m0 < a.length ∧ (fun x : KRLSzSz.den => beg x.1 p || beg p x.1) (ix KRLSzSz.z a (m0 : Int)) = true ∧ ∀ x ∈ a.take m0, (fun x : KRLSzSz.den => beg x.1 p || beg p x.1) x = false := (fidx_cases (fun x : KRLSzSz.den => beg x.1 p || beg p x.1) KRLSzSz.z a 0).elim (fun h => absurd h.1 c1) (fun ⟨i, h⟩ => ⟨i, by rw [h.1]; omega, h.2⟩)
    refine cskip ?_
    refine xthn ?_
    refine cseq ?_
    refine cseq ?_
    refine copen (k := 0) rfl (fun q1 hd1 ho1 => ?_)
    have hql : q1.length = a.length := by rw [← hd1]; simp
    have hz1 : (fun x : KRLSzSz.den => beg x.1 p || beg p x.1) (ix (KRLSzSz.z, KRLSzSz.raw.z) q1 (m0 : Int)).1 = true := by have := ix_map (f := fun z : KRLSzSz.den × KRLSzSz.raw.den => z.1) (z := (KRLSzSz.z, KRLSzSz.raw.z)) (z' := KRLSzSz.z) (q := q1) (i := m0) (by omega); rw [← this]; show (fun x : KRLSzSz.den => beg x.1 p || beg p x.1) (ix KRLSzSz.z (An.d q1) (m0 : Int)) = true; rw [hd1]; exact hi3
    have hz2 : fl (fun x : KRLSzSz.den => beg x.1 p || beg p x.1) (q1.take (m0 + 1)) = q1.take m0 := by rw [fl_drop (z := (KRLSzSz.z, KRLSzSz.raw.z)) (by omega) hz1]; exact fl_first (by show ∀ x ∈ (An.d q1).take m0, (fun x : KRLSzSz.den => beg x.1 p || beg p x.1) x = false; rw [hd1]; exact hi4)
    have hz3 : (fl (fun x : KRLSzSz.den => beg x.1 p || beg p x.1) (q1.take (m0 + 1))).length = m0 := by rw [hz2]; simp; omega
    refine creg ?_
    refine o1 (mv rfl) ?_
    refine o1 (iadd rfl rfl (by first | omega | (simp only [List.length_cons, List.length_nil, List.length_append]; omega) | (simp; omega)) (by first | omega | (simp only [List.length_cons, List.length_nil, List.length_append]; omega) | (simp; omega))) ?_
    refine o1 (asn rfl) ?_
    refine onil ?_
    refine xthn ?_
    refine cblock ?_
    refine clk (ι := Nat) (.c 0 rfl (.c 1 rfl (.n))) (fun j r => (5, .c (.i .i64) (((fl (fun x : KRLSzSz.den => beg x.1 p || beg p x.1) (q1.take j)).length : Int))) :: (6, .c (.i .i64) ((j : Int))) :: r) (fun j r => r.set 0 (.arr false 94 KRLSzSz.raw (An.r ((fl (fun x : KRLSzSz.den => beg x.1 p || beg p x.1) (q1.take j)) ++ q1.drop (fl (fun x : KRLSzSz.den => beg x.1 p || beg p x.1) (q1.take j)).length)))) (fun j => (fl (fun x : KRLSzSz.den => beg x.1 p || beg p x.1) (q1.take j)).length < j ∧ j ≤ q1.length) (fun j => q1.length - j) (m0 + 1) (by rw [hz3]; omega) (weak [0, 1] (by decide) (hk hH rfl) (by repeat (first | exact .n | refine .c rfl (by first | rfl | exact arq (by rw [hz3, hz2, List.take_append_drop])) ?_)) (by repeat (first | exact .n | refine .c rfl (by first | rfl | exact ciq (by rw [hz3, hi1]) | exact ciq (by rw [hi1]; omega)) ?_))) ?_
    rintro j i0
    try simp only [] at i0
    have hAl : (An.r ((fl (fun x : KRLSzSz.den => beg x.1 p || beg p x.1) (q1.take j)) ++ q1.drop (fl (fun x : KRLSzSz.den => beg x.1 p || beg p x.1) (q1.take j)).length)).length = q1.length := by rw [r_len, List.length_append, List.length_drop]; have := fl_le (fun x : KRLSzSz.den => beg x.1 p || beg p x.1) (q1.take j); simp only [List.length_take] at this; omega
    refine cseq ?_
    refine cseq ?_
    refine creg ?_
    refine o1 (mv rfl) ?_
    refine o1 (mv rfl) ?_
    refine ofacto (k := 0) rfl fun hl1 => ?_
    refine o1 (leno rfl rfl li26) ?_
    refine o1 (ibin rfl rfl rfl) ?_
    refine onil ?_
    refine xthn ?_
    refine ccond rfl (fun c2 => ?_) (fun c2 => ?_)
    · repeat (first | simp only [decide_eq_true_eq] at c2 | simp only [decide_eq_false_iff_not] at c2 | simp only [beq_iff_eq] at c2 | simp only [bne_iff_ne] at c2 | simp only [Bool.not_eq_true'] at c2 | simp only [Bool.not_eq_false'] at c2 | simp only [beq_eq_false_iff_ne] at c2 | simp only [bne_eq_false_iff_eq] at c2 | simp only [Bool.not_not] at c2 | simp only [ne_eq] at c2 | simp only [Int.not_lt] at c2 | simp only [Int.not_le] at c2 | simp only [gt_iff_lt] at c2 | simp only [ge_iff_le] at c2 | simp only [Bool.not_eq_true] at c2 | simp only [Bool.not_eq_false] at c2 | simp only [Decidable.not_not] at c2)
      have hjq : j < q1.length := by omega
      have hel : (ix KRLSzSz.raw.z (An.r ((fl (fun x : KRLSzSz.den => beg x.1 p || beg p x.1) (q1.take j)) ++ q1.drop (fl (fun x : KRLSzSz.den => beg x.1 p || beg p x.1) (q1.take j)).length)) (j : Int)) = (ix (KRLSzSz.z, KRLSzSz.raw.z) q1 (j : Int)).2 := by rw [show An.r ((fl (fun x : KRLSzSz.den => beg x.1 p || beg p x.1) (q1.take j)) ++ q1.drop (fl (fun x : KRLSzSz.den => beg x.1 p || beg p x.1) (q1.take j)).length) = ((fl (fun x : KRLSzSz.den => beg x.1 p || beg p x.1) (q1.take j)) ++ q1.drop (fl (fun x : KRLSzSz.den => beg x.1 p || beg p x.1) (q1.take j)).length).map (·.2) from rfl, ix_map (z := (KRLSzSz.z, KRLSzSz.raw.z)) (by have := hAl; rw [r_len] at this; omega), ix_appr (by omega)]
      have hmq := ix_mem (z := (KRLSzSz.z, KRLSzSz.raw.z)) (xs := q1) (i := j) hjq
      have hsc := ho1 _ hmq
      have hpr : (fun x : KRLSzSz.den => beg x.1 p || beg p x.1) ((((ix (KRLSzSz.z, KRLSzSz.raw.z) q1 (j : Int)).1.1, (ix KRLSzSz.raw.z (An.r ((fl (fun x : KRLSzSz.den => beg x.1 p || beg p x.1) (q1.take j)) ++ q1.drop (fl (fun x : KRLSzSz.den => beg x.1 p || beg p x.1) (q1.take j)).length)) (j : Int)).2.1, ()) : KRLSzSz.den)) = (fun x : KRLSzSz.den => beg x.1 p || beg p x.1) (ix (KRLSzSz.z, KRLSzSz.raw.z) q1 (j : Int)).1 := by rfl
      have hpe0 : (⟨KS, (ix (KRLSzSz.z, KRLSzSz.raw.z) q1 (j : Int)).1.1, (ix KRLSzSz.raw.z (An.r ((fl (fun x : KRLSzSz.den => beg x.1 p || beg p x.1) (q1.take j)) ++ q1.drop (fl (fun x : KRLSzSz.den => beg x.1 p || beg p x.1) (q1.take j)).length)) (j : Int)).1⟩ : Pe) ∈ An.e q1 := mem_e hmq (by rw [hel]; simp [ents])
      refine cskip ?_
      refine xthn ?_
      refine cseq ?_
      refine cblock ?_
      refine cseq ?_
      refine creg ?_
      refine o1 (mv rfl) ?_
      refine o1 (mv rfl) ?_
      refine o1 (ixo rfl rfl rfl li26 rfl (by first | omega | (simp only [List.length_cons, List.length_nil, List.length_append]; omega) | (simp; omega)) (by first | omega | (simp only [List.length_cons, List.length_nil, List.length_append]; omega) | (simp; omega))) ?_
      refine o1 (lden rfl rfl (by first | omega | (simp only [List.length_cons, List.length_nil, List.length_append]; omega) | (simp; omega)) ti94) ?_
      refine e1 (av := .bp 2 0) (salloc zi94) ?_
      refine e0 (sstn rfl rfl rfl rfl (Le rfl) ti94) ?_
      refine owk (wnorm (.c (o := .arr _ _ _ _) rfl (.c (o := .pile _) rfl (.c (o := .box _ _) rfl (.n)))) rfl) ?_
      refine onil ?_
      refine xthn ?_
      refine cseq ?_
      refine creg ?_
      refine o1 (mv rfl) ?_
      refine o1 (ldbn rfl rfl ti94 (Le rfl)) ?_
      refine vce c_impl_setAt_1 ((((ix (KRLSzSz.z, KRLSzSz.raw.z) q1 (j : Int)).1.1, (ix KRLSzSz.raw.z (An.r ((fl (fun x : KRLSzSz.den => beg x.1 p || beg p x.1) (q1.take j)) ++ q1.drop (fl (fun x : KRLSzSz.den => beg x.1 p || beg p x.1) (q1.take j)).length)) (j : Int)).2.1, ()) : KRLSzSz.den), p) [] [1] rfl 1 (.c rfl (.g (.c (.p (k := 1) (by decide) rfl (by first | exact hpe0 | exact hpe1)) (.c (.e rfl) (.n)))) (.n)) (.c (.a (.e rfl)) (.n)) (by first | trivial | assumption | omega | (simp only []; omega) | (refine ?_; omega) | (constructor <;> omega) | (refine ⟨?_, ?_⟩ <;> (first | assumption | omega | (simp; omega)))) (by decide) (by decide) (.n) rfl (.inr ⟨rfl, by simp [Ob.free]⟩) ?_ (.inl rfl)
      refine o1 (unot rfl) ?_
      refine onil ?_
      refine xthn ?_
      refine ccond rfl (fun c3 => ?_) (fun c3 => ?_)
      · repeat (first | simp only [decide_eq_true_eq] at c3 | simp only [decide_eq_false_iff_not] at c3 | simp only [beq_iff_eq] at c3 | simp only [bne_iff_ne] at c3 | simp only [Bool.not_eq_true'] at c3 | simp only [Bool.not_eq_false'] at c3 | simp only [beq_eq_false_iff_ne] at c3 | simp only [bne_eq_false_iff_eq] at c3 | simp only [Bool.not_not] at c3 | simp only [ne_eq] at c3 | simp only [Int.not_lt] at c3 | simp only [Int.not_le] at c3 | simp only [gt_iff_lt] at c3 | simp only [ge_iff_le] at c3 | simp only [Bool.not_eq_true] at c3 | simp only [Bool.not_eq_false] at c3 | simp only [Decidable.not_not] at c3)
        refine cseq ?_
        refine creg ?_
        refine o1 (mv rfl) ?_
        refine o1 (mv rfl) ?_
        refine o1 (ldbn rfl rfl ti94 (Le rfl)) ?_
        refine o1 (ixo rfl rfl rfl li26 rfl (by first | omega | (simp only [List.length_cons, List.length_nil, List.length_append]; omega) | (simp; omega)) (by first | omega | (simp only [List.length_cons, List.length_nil, List.length_append]; omega) | (simp; omega))) ?_
        refine e0 (sste rfl rfl (by first | omega | (simp only [List.length_cons, List.length_nil, List.length_append]; omega) | (simp; omega)) rfl (.i (.c (.c (.n)))) ti94) ?_
        refine onil ?_
        refine xthn ?_
        refine creg ?_
        refine o1 (mv rfl) ?_
        refine o1 (iadd rfl rfl (by first | omega | (simp only [List.length_cons, List.length_nil, List.length_append]; omega) | (simp; omega)) (by first | omega | (simp only [List.length_cons, List.length_nil, List.length_append]; omega) | (simp; omega))) ?_
        refine o1 (asn rfl) ?_
        refine onil ?_
        refine xbn ?_
        refine xthn ?_
        refine creg ?_
        refine o1 (mv rfl) ?_
        refine o1 (iadd rfl rfl (by first | omega | (simp only [List.length_cons, List.length_nil, List.length_append]; omega) | (simp; omega)) (by first | omega | (simp only [List.length_cons, List.length_nil, List.length_append]; omega) | (simp; omega))) ?_
        refine o1 (asn rfl) ?_
        refine onil ?_
        refine xlq (j + 1) (by have h1 : (fun x : KRLSzSz.den => beg x.1 p || beg p x.1) (ix (KRLSzSz.z, KRLSzSz.raw.z) q1 (j : Int)).1 = false := (by rw [← hpr]; simpa using c3); rw [fl_keep (z := (KRLSzSz.z, KRLSzSz.raw.z)) hjq h1]; simp; omega) (by first | omega | (simp only []; omega)) (weak [0, 1] (by decide) (hk hH rfl) (by repeat (first | exact .n | refine .c rfl (by first | rfl | exact arq (by have h1 : (fun x : KRLSzSz.den => beg x.1 p || beg p x.1) (ix (KRLSzSz.z, KRLSzSz.raw.z) q1 (j : Int)).1 = false := (by rw [← hpr]; simpa using c3); rw [fl_keep (z := (KRLSzSz.z, KRLSzSz.raw.z)) hjq h1, show An.r ((fl (fun x : KRLSzSz.den => beg x.1 p || beg p x.1) (q1.take j)) ++ q1.drop (fl (fun x : KRLSzSz.den => beg x.1 p || beg p x.1) (q1.take j)).length) = ((fl (fun x : KRLSzSz.den => beg x.1 p || beg p x.1) (q1.take j)) ++ q1.drop (fl (fun x : KRLSzSz.den => beg x.1 p || beg p x.1) (q1.take j)).length).map (·.2) from rfl]; simp only [Int.toNat_natCast]; rw [hel, ← List.map_set, set_keep (by omega)]; simp [An.r]) | exact arq (by have h1 : (fun x : KRLSzSz.den => beg x.1 p || beg p x.1) (ix (KRLSzSz.z, KRLSzSz.raw.z) q1 (j : Int)).1 = true := (by rw [← hpr]; simpa using c3); rw [fl_drop (z := (KRLSzSz.z, KRLSzSz.raw.z)) hjq h1])) ?_)) (by repeat (first | exact .n | refine .c rfl (by first | rfl | exact ciq (by have h1 : (fun x : KRLSzSz.den => beg x.1 p || beg p x.1) (ix (KRLSzSz.z, KRLSzSz.raw.z) q1 (j : Int)).1 = false := (by rw [← hpr]; simpa using c3); rw [fl_keep (z := (KRLSzSz.z, KRLSzSz.raw.z)) hjq h1]; simp) | exact ciq (by have h1 : (fun x : KRLSzSz.den => beg x.1 p || beg p x.1) (ix (KRLSzSz.z, KRLSzSz.raw.z) q1 (j : Int)).1 = true := (by rw [← hpr]; simpa using c3); rw [fl_drop (z := (KRLSzSz.z, KRLSzSz.raw.z)) hjq h1])) ?_)))
      · repeat (first | simp only [decide_eq_true_eq] at c3 | simp only [decide_eq_false_iff_not] at c3 | simp only [beq_iff_eq] at c3 | simp only [bne_iff_ne] at c3 | simp only [Bool.not_eq_true'] at c3 | simp only [Bool.not_eq_false'] at c3 | simp only [beq_eq_false_iff_ne] at c3 | simp only [bne_eq_false_iff_eq] at c3 | simp only [Bool.not_not] at c3 | simp only [ne_eq] at c3 | simp only [Int.not_lt] at c3 | simp only [Int.not_le] at c3 | simp only [gt_iff_lt] at c3 | simp only [ge_iff_le] at c3 | simp only [Bool.not_eq_true] at c3 | simp only [Bool.not_eq_false] at c3 | simp only [Decidable.not_not] at c3)
        refine cskip ?_
        refine xbn ?_
        refine xthn ?_
        refine creg ?_
        refine o1 (mv rfl) ?_
        refine o1 (iadd rfl rfl (by first | omega | (simp only [List.length_cons, List.length_nil, List.length_append]; omega) | (simp; omega)) (by first | omega | (simp only [List.length_cons, List.length_nil, List.length_append]; omega) | (simp; omega))) ?_
        refine o1 (asn rfl) ?_
        refine onil ?_
        refine xlq (j + 1) (by have h1 : (fun x : KRLSzSz.den => beg x.1 p || beg p x.1) (ix (KRLSzSz.z, KRLSzSz.raw.z) q1 (j : Int)).1 = true := (by rw [← hpr]; simpa using c3); rw [fl_drop (z := (KRLSzSz.z, KRLSzSz.raw.z)) hjq h1]; omega) (by first | omega | (simp only []; omega)) (weak [0, 1] (by decide) (hk hH rfl) (by repeat (first | exact .n | refine .c rfl (by first | rfl | exact arq (by have h1 : (fun x : KRLSzSz.den => beg x.1 p || beg p x.1) (ix (KRLSzSz.z, KRLSzSz.raw.z) q1 (j : Int)).1 = false := (by rw [← hpr]; simpa using c3); rw [fl_keep (z := (KRLSzSz.z, KRLSzSz.raw.z)) hjq h1, show An.r ((fl (fun x : KRLSzSz.den => beg x.1 p || beg p x.1) (q1.take j)) ++ q1.drop (fl (fun x : KRLSzSz.den => beg x.1 p || beg p x.1) (q1.take j)).length) = ((fl (fun x : KRLSzSz.den => beg x.1 p || beg p x.1) (q1.take j)) ++ q1.drop (fl (fun x : KRLSzSz.den => beg x.1 p || beg p x.1) (q1.take j)).length).map (·.2) from rfl]; simp only [Int.toNat_natCast]; rw [hel, ← List.map_set, set_keep (by omega)]; simp [An.r]) | exact arq (by have h1 : (fun x : KRLSzSz.den => beg x.1 p || beg p x.1) (ix (KRLSzSz.z, KRLSzSz.raw.z) q1 (j : Int)).1 = true := (by rw [← hpr]; simpa using c3); rw [fl_drop (z := (KRLSzSz.z, KRLSzSz.raw.z)) hjq h1])) ?_)) (by repeat (first | exact .n | refine .c rfl (by first | rfl | exact ciq (by have h1 : (fun x : KRLSzSz.den => beg x.1 p || beg p x.1) (ix (KRLSzSz.z, KRLSzSz.raw.z) q1 (j : Int)).1 = false := (by rw [← hpr]; simpa using c3); rw [fl_keep (z := (KRLSzSz.z, KRLSzSz.raw.z)) hjq h1]; simp) | exact ciq (by have h1 : (fun x : KRLSzSz.den => beg x.1 p || beg p x.1) (ix (KRLSzSz.z, KRLSzSz.raw.z) q1 (j : Int)).1 = true := (by rw [← hpr]; simpa using c3); rw [fl_drop (z := (KRLSzSz.z, KRLSzSz.raw.z)) hjq h1])) ?_)))
    · repeat (first | simp only [decide_eq_true_eq] at c2 | simp only [decide_eq_false_iff_not] at c2 | simp only [beq_iff_eq] at c2 | simp only [bne_iff_ne] at c2 | simp only [Bool.not_eq_true'] at c2 | simp only [Bool.not_eq_false'] at c2 | simp only [beq_eq_false_iff_ne] at c2 | simp only [bne_eq_false_iff_eq] at c2 | simp only [Bool.not_not] at c2 | simp only [ne_eq] at c2 | simp only [Int.not_lt] at c2 | simp only [Int.not_le] at c2 | simp only [gt_iff_lt] at c2 | simp only [ge_iff_le] at c2 | simp only [Bool.not_eq_true] at c2 | simp only [Bool.not_eq_false] at c2 | simp only [Decidable.not_not] at c2)
      refine cexit ?_
      refine xthe ?_
      refine xle ?_
      refine xbh ?_
      refine xthn ?_
      refine cseq ?_
      refine cprt (k := 0) rfl (by rw [hAl]; omega) (fun cp hc1 hc2 => ?_)
      refine creg ?_
      refine o1 (mv rfl) ?_
      refine o1 (mv rfl) ?_
      refine o1 (psubl rfl rfl rfl li26 rfl (by first | omega | (simp only [List.length_cons, List.length_nil, List.length_append]; omega) | (simp; omega)) (by first | omega | (simp only [List.length_cons, List.length_nil, List.length_append]; omega) | (simp; omega))) ?_
      refine e9 (sclear rfl rfl (mi26).raw (L rfl) (by first | omega | (simp only [List.length_cons, List.length_nil, List.length_append]; omega) | (simp; omega))) ?_
      refine onil ?_
      refine xthn ?_
      refine cseq ?_
      refine creg ?_
      refine o1 (mv rfl) ?_
      refine o1 (mv rfl) ?_
      refine e1 (av := .own 2) (spcut rfl rfl rfl li26 rfl (by first | omega | (simp only [List.length_cons, List.length_nil, List.length_append]; omega) | (simp; omega)) (by first | omega | (simp only [List.length_cons, List.length_nil, List.length_append]; omega) | (simp; omega))) ?_
      refine owk (wnorm (.c rfl (.c (o := .pile _) rfl (.c (o := .prt _ _ _ _) rfl (.n)))) rfl) ?_
      refine o1 (asn rfl) ?_
      refine onil ?_
      refine xthn ?_
      refine cret ?_
      refine xwk (parr (k := 2) (An.r (fl (fun x : KRLSzSz.den => beg x.1 p || beg p x.1) (q1))) rfl (by exact pext_all (by have := hAl; simp only [pblit_len, pext_len, List.length_append, List.length_take, List.length_drop, List.length_replicate, List.length_map] at *; first | omega | (simp [hAl]; done) | (simp [hAl]; omega)) (by have e1 : q1.take j = q1 := List.take_of_length_le (by omega); simp only [e1] at *; rw [List.take_append_of_le_length (by simp), List.take_append_of_le_length (by simp), List.take_of_length_le (by simp)]; simp [An.r]))) ?_
      refine xwk (wclose (k := 2) [1] (fl (fun x : KRLSzSz.den => beg x.1 p || beg p x.1) (q1)) (An.e (q1.filter fun z => (fun x : KRLSzSz.den => beg x.1 p || beg p x.1) z.1)) rfl rfl (.c (j := 1) rfl (.n)) (fl_ok ho1) (by exact fl_perm (fun x : KRLSzSz.den => beg x.1 p || beg p x.1) q1) (by decide)) ?_
      refine retg (bs := [.own 1]) (ob' := [.hed, .arr true 94 KRLSzSz (a.filter fun x => !(fun x : KRLSzSz.den => beg x.1 p || beg p x.1) x)]) [0, 2] rfl (.t rfl (.n)) (by decide) (hk hH rfl) (.c rfl rfl (.c rfl (arq ?_) (.n))) (lc rfl rfl) rfl
      all_goals first | rfl | (show An.d (fl (fun x : KRLSzSz.den => beg x.1 p || beg p x.1) (q1)) = _; rw [show An.d (fl (fun x : KRLSzSz.den => beg x.1 p || beg p x.1) (q1)) = (fl (fun x : KRLSzSz.den => beg x.1 p || beg p x.1) (q1)).map (·.1) from rfl, fl_d]; exact congrArg _ hd1)

theorem c_slices_DeleteFunc_impl_Leaf_impl_Leaf_DeleteAt : Fe Go.Proofs.Try.prog 131 (ι := List KRLSzSz.den × StrS) (fun | (a, p) => [.own 0, .fn 132 [.rp (.cons (.l KS) .nil) (p, ())]]) (fun | (a, p) => [.arr true 94 KRLSzSz a]) (fun | (a, p) => a.length ≤ 1048576) (fun | (a, p) => (.own 1, [.hed, .arr true 94 KRLSzSz (a.filter fun x => !(fun x : KRLSzSz.den => beg p x.1) x)])) := by
  refine fnE (n := 42) Go.Proofs.Try.func131 rfl rfl (ent Go.Proofs.Try.func131 (by kernel_rfl) rfl) ?_
  rintro ⟨a, p⟩ hx
  refine ⟨Le rfl, fun w0 S0 H Z hH => ?_⟩
  try simp only [] at hx
  refine cseq ?_
  refine creg ?_
  refine o1 (asn rfl) ?_
  refine onil ?_
  refine xthn ?_
  refine cseq ?_
  refine creg ?_
  refine o1 (mv rfl) ?_
  refine o1 (mv rfl) ?_
  refine ce c_slices_IndexFunc_impl_Leaf_impl_Leaf_DeleteAt (_, _) [] [0] (.c rfl (.c (.o (k := 0) (by decide) rfl)) (.c rfl (.c (.e rfl)) (.n))) (by first | trivial | assumption | omega | (simp only []; omega) | (refine ?_; omega) | (constructor <;> omega) | (refine ⟨?_, ?_⟩ <;> (first | assumption | omega | (simp; omega)))) (by decide) (by decide) (.n) rfl (.inr ⟨rfl, by simp [Ob.free]⟩) ?_ (.inl rfl)
  refine o1 (asn rfl) ?_
  refine onil ?_
  refine xthn ?_
  refine cseq ?_
  refine cseq ?_
  refine creg ?_
  refine o1 (mv rfl) ?_
  refine o1 (ibin rfl rfl rfl) ?_
  refine onil ?_
  refine xthn ?_
  refine ccond rfl (fun c1 => ?_) (fun c1 => ?_)
  · repeat (first | simp only [decide_eq_true_eq] at c1 | simp only [decide_eq_false_iff_not] at c1 | simp only [beq_iff_eq] at c1 | simp only [bne_iff_ne] at c1 | simp only [Bool.not_eq_true'] at c1 | simp only [Bool.not_eq_false'] at c1 | simp only [beq_eq_false_iff_ne] at c1 | simp only [bne_eq_false_iff_eq] at c1 | simp only [Bool.not_not] at c1 | simp only [ne_eq] at c1 | simp only [Int.not_lt] at c1 | simp only [Int.not_le] at c1 | simp only [gt_iff_lt] at c1 | simp only [ge_iff_le] at c1 | simp only [Bool.not_eq_true] at c1 | simp only [Bool.not_eq_false] at c1 | simp only [Decidable.not_not] at c1)
    have hno := (fidx_cases (fun x : KRLSzSz.den => beg p x.1) KRLSzSz.z a 0).elim (fun h => h.2) (fun ⟨i, h⟩ => by have h3 := h.1; have h4 : fidx (fun x : KRLSzSz.den => beg p x.1) a 0 = -1 := c1; omega)
    refine cseq ?_
    refine creg ?_
    refine o1 (mv rfl) ?_
    refine o1 (asn rfl) ?_
    refine onil ?_
    refine xthn ?_
    refine cret ?_
    refine xthr ?_
    refine xwk (wmv (t := 4) (k := 0) rfl rfl) ?_
    refine retg (bs := [.own 1]) (ob' := [.hed, .arr true 94 KRLSzSz (a.filter fun x => !(fun x : KRLSzSz.den => beg p x.1) x)]) [0, 1] rfl (.t rfl (.n)) (by decide) (hk hH rfl) (.c rfl rfl (.c rfl (arq ?_) (.n))) (lc rfl rfl) rfl
    all_goals first | rfl | (exact filter_none hno)
  · repeat (first | simp only [decide_eq_true_eq] at c1 | simp only [decide_eq_false_iff_not] at c1 | simp only [beq_iff_eq] at c1 | simp only [bne_iff_ne] at c1 | simp only [Bool.not_eq_true'] at c1 | simp only [Bool.not_eq_false'] at c1 | simp only [beq_eq_false_iff_ne] at c1 | simp only [bne_eq_false_iff_eq] at c1 | simp only [Bool.not_not] at c1 | simp only [ne_eq] at c1 | simp only [Int.not_lt] at c1 | simp only [Int.not_le] at c1 | simp only [gt_iff_lt] at c1 | simp only [ge_iff_le] at c1 | simp only [Bool.not_eq_true] at c1 | simp only [Bool.not_eq_false] at c1 | simp only [Decidable.not_not] at c1)
    obtain ⟨m0, hi1, hi2, hi3, hi4⟩ : ∃ m0 : Nat, fidx (fun x : KRLSzSz.den => beg p x.1) a 0 = (m0 : Int) ∧ m0 < a.length ∧ (fun x : KRLSzSz.den => beg p x.1) (ix KRLSzSz.z a (m0 : Int)) = true ∧ ∀ x ∈ a.take m0, (fun x : KRLSzSz.den => beg p x.1) x = false := (fidx_cases (fun x : KRLSzSz.den => beg p x.1) KRLSzSz.z a 0).elim (fun h => absurd h.1 c1) (fun ⟨i, h⟩ => ⟨i, by rw [h.1]; omega, h.2⟩)
    refine cskip ?_
    refine xthn ?_
    refine cseq ?_
    refine cseq ?_
    refine copen (k := 0) rfl (fun q1 hd1 ho1 => ?_)
    have hql : q1.length = a.length := by rw [← hd1]; simp
    have hz1 : (fun x : KRLSzSz.den => beg p x.1) (ix (KRLSzSz.z, KRLSzSz.raw.z) q1 (m0 : Int)).1 = true := by have := ix_map (f := fun z : KRLSzSz.den × KRLSzSz.raw.den => z.1) (z := (KRLSzSz.z, KRLSzSz.raw.z)) (z' := KRLSzSz.z) (q := q1) (i := m0) (by omega); rw [← this]; show (fun x : KRLSzSz.den => beg p x.1) (ix KRLSzSz.z (An.d q1) (m0 : Int)) = true; rw [hd1]; exact hi3
    have hz2 : fl (fun x : KRLSzSz.den => beg p x.1) (q1.take (m0 + 1)) = q1.take m0 := by rw [fl_drop (z := (KRLSzSz.z, KRLSzSz.raw.z)) (by omega) hz1]; exact fl_first (by show ∀ x ∈ (An.d q1).take m0, (fun x : KRLSzSz.den => beg p x.1) x = false; rw [hd1]; exact hi4)
    have hz3 : (fl (fun x : KRLSzSz.den => beg p x.1) (q1.take (m0 + 1))).length = m0 := by rw [hz2]; simp; omega
    refine creg ?_
    refine o1 (mv rfl) ?_
    refine o1 (iadd rfl rfl (by first | omega | (simp only [List.length_cons, List.length_nil, List.length_append]; omega) | (simp; omega)) (by first | omega | (simp only [List.length_cons, List.length_nil, List.length_append]; omega) | (simp; omega))) ?_
    refine o1 (asn rfl) ?_
    refine onil ?_
    refine xthn ?_
    refine cblock ?_
    refine clk (ι := Nat) (.c 0 rfl (.c 1 rfl (.n))) (fun j r => (5, .c (.i .i64) (((fl (fun x : KRLSzSz.den => beg p x.1) (q1.take j)).length : Int))) :: (6, .c (.i .i64) ((j : Int))) :: r) (fun j r => r.set 0 (.arr false 94 KRLSzSz.raw (An.r ((fl (fun x : KRLSzSz.den => beg p x.1) (q1.take j)) ++ q1.drop (fl (fun x : KRLSzSz.den => beg p x.1) (q1.take j)).length)))) (fun j => (fl (fun x : KRLSzSz.den => beg p x.1) (q1.take j)).length < j ∧ j ≤ q1.length) (fun j => q1.length - j) (m0 + 1) (by rw [hz3]; omega) (weak [0, 1] (by decide) (hk hH rfl) (by repeat (first | exact .n | refine .c rfl (by first | rfl | exact arq (by rw [hz3, hz2, List.take_append_drop])) ?_)) (by repeat (first | exact .n | refine .c rfl (by first | rfl | exact ciq (by rw [hz3, hi1]) | exact ciq (by rw [hi1]; omega)) ?_))) ?_
    rintro j i0
    try simp only [] at i0
    have hAl : (An.r ((fl (fun x : KRLSzSz.den => beg p x.1) (q1.take j)) ++ q1.drop (fl (fun x : KRLSzSz.den => beg p x.1) (q1.take j)).length)).length = q1.length := by rw [r_len, List.length_append, List.length_drop]; have := fl_le (fun x : KRLSzSz.den => beg p x.1) (q1.take j); simp only [List.length_take] at this; omega
    refine cseq ?_
    refine cseq ?_
    refine creg ?_
    refine o1 (mv rfl) ?_
    refine o1 (mv rfl) ?_
    refine ofacto (k := 0) rfl fun hl1 => ?_
    refine o1 (leno rfl rfl li26) ?_
    refine o1 (ibin rfl rfl rfl) ?_
    refine onil ?_
    refine xthn ?_
    refine ccond rfl (fun c2 => ?_) (fun c2 => ?_)
    · repeat (first | simp only [decide_eq_true_eq] at c2 | simp only [decide_eq_false_iff_not] at c2 | simp only [beq_iff_eq] at c2 | simp only [bne_iff_ne] at c2 | simp only [Bool.not_eq_true'] at c2 | simp only [Bool.not_eq_false'] at c2 | simp only [beq_eq_false_iff_ne] at c2 | simp only [bne_eq_false_iff_eq] at c2 | simp only [Bool.not_not] at c2 | simp only [ne_eq] at c2 | simp only [Int.not_lt] at c2 | simp only [Int.not_le] at c2 | simp only [gt_iff_lt] at c2 | simp only [ge_iff_le] at c2 | simp only [Bool.not_eq_true] at c2 | simp only [Bool.not_eq_false] at c2 | simp only [Decidable.not_not] at c2)
      have hjq : j < q1.length := by omega
      have hel : (ix KRLSzSz.raw.z (An.r ((fl (fun x : KRLSzSz.den => beg p x.1) (q1.take j)) ++ q1.drop (fl (fun x : KRLSzSz.den => beg p x.1) (q1.take j)).length)) (j : Int)) = (ix (KRLSzSz.z, KRLSzSz.raw.z) q1 (j : Int)).2 := by rw [show An.r ((fl (fun x : KRLSzSz.den => beg p x.1) (q1.take j)) ++ q1.drop (fl (fun x : KRLSzSz.den => beg p x.1) (q1.take j)).length) = ((fl (fun x : KRLSzSz.den => beg p x.1) (q1.take j)) ++ q1.drop (fl (fun x : KRLSzSz.den => beg p x.1) (q1.take j)).length).map (·.2) from rfl, ix_map (z := (KRLSzSz.z, KRLSzSz.raw.z)) (by have := hAl; rw [r_len] at this; omega), ix_appr (by omega)]
      have hmq := ix_mem (z := (KRLSzSz.z, KRLSzSz.raw.z)) (xs := q1) (i := j) hjq
      have hsc := ho1 _ hmq
      have hpr : (fun x : KRLSzSz.den => beg p x.1) ((((ix (KRLSzSz.z, KRLSzSz.raw.z) q1 (j : Int)).1.1, (ix KRLSzSz.raw.z (An.r ((fl (fun x : KRLSzSz.den => beg p x.1) (q1.take j)) ++ q1.drop (fl (fun x : KRLSzSz.den => beg p x.1) (q1.take j)).length)) (j : Int)).2.1, ()) : KRLSzSz.den)) = (fun x : KRLSzSz.den => beg p x.1) (ix (KRLSzSz.z, KRLSzSz.raw.z) q1 (j : Int)).1 := by rfl
      have hpe0 : (⟨KS, (ix (KRLSzSz.z, KRLSzSz.raw.z) q1 (j : Int)).1.1, (ix KRLSzSz.raw.z (An.r ((fl (fun x : KRLSzSz.den => beg p x.1) (q1.take j)) ++ q1.drop (fl (fun x : KRLSzSz.den => beg p x.1) (q1.take j)).length)) (j : Int)).1⟩ : Pe) ∈ An.e q1 := mem_e hmq (by rw [hel]; simp [ents])
      refine cskip ?_
      refine xthn ?_
      refine cseq ?_
      refine cblock ?_
      refine cseq ?_
      refine creg ?_
      refine o1 (mv rfl) ?_
      refine o1 (mv rfl) ?_
      refine o1 (ixo rfl rfl rfl li26 rfl (by first | omega | (simp only [List.length_cons, List.length_nil, List.length_append]; omega) | (simp; omega)) (by first | omega | (simp only [List.length_cons, List.length_nil, List.length_append]; omega) | (simp; omega))) ?_
      refine o1 (lden rfl rfl (by first | omega | (simp only [List.length_cons, List.length_nil, List.length_append]; omega) | (simp; omega)) ti94) ?_
      refine e1 (av := .bp 2 0) (salloc zi94) ?_
      refine e0 (sstn rfl rfl rfl rfl (Le rfl) ti94) ?_
      refine owk (wnorm (.c (o := .arr _ _ _ _) rfl (.c (o := .pile _) rfl (.c (o := .box _ _) rfl (.n)))) rfl) ?_
      refine onil ?_
      refine xthn ?_
      refine cseq ?_
      refine creg ?_
      refine o1 (mv rfl) ?_
      refine o1 (ldbn rfl rfl ti94 (Le rfl)) ?_
      refine vce c_impl_DeleteAt_1 ((((ix (KRLSzSz.z, KRLSzSz.raw.z) q1 (j : Int)).1.1, (ix KRLSzSz.raw.z (An.r ((fl (fun x : KRLSzSz.den => beg p x.1) (q1.take j)) ++ q1.drop (fl (fun x : KRLSzSz.den => beg p x.1) (q1.take j)).length)) (j : Int)).2.1, ()) : KRLSzSz.den), p) [] [1] rfl 1 (.c rfl (.g (.c (.p (k := 1) (by decide) rfl (by first | exact hpe0 | exact hpe1)) (.c (.e rfl) (.n)))) (.n)) (.c (.a (.e rfl)) (.n)) (by first | trivial | assumption | omega | (simp only []; omega) | (refine ?_; omega) | (constructor <;> omega) | (refine ⟨?_, ?_⟩ <;> (first | assumption | omega | (simp; omega)))) (by decide) (by decide) (.n) rfl (.inr ⟨rfl, by simp [Ob.free]⟩) ?_ (.inl rfl)
      refine o1 (unot rfl) ?_
      refine onil ?_
      refine xthn ?_
      refine ccond rfl (fun c3 => ?_) (fun c3 => ?_)
      · repeat (first | simp only [decide_eq_true_eq] at c3 | simp only [decide_eq_false_iff_not] at c3 | simp only [beq_iff_eq] at c3 | simp only [bne_iff_ne] at c3 | simp only [Bool.not_eq_true'] at c3 | simp only [Bool.not_eq_false'] at c3 | simp only [beq_eq_false_iff_ne] at c3 | simp only [bne_eq_false_iff_eq] at c3 | simp only [Bool.not_not] at c3 | simp only [ne_eq] at c3 | simp only [Int.not_lt] at c3 | simp only [Int.not_le] at c3 | simp only [gt_iff_lt] at c3 | simp only [ge_iff_le] at c3 | simp only [Bool.not_eq_true] at c3 | simp only [Bool.not_eq_false] at c3 | simp only [Decidable.not_not] at c3)
        refine cseq ?_
        refine creg ?_
        refine o1 (mv rfl) ?_
        refine o1 (mv rfl) ?_
        refine o1 (ldbn rfl rfl ti94 (Le rfl)) ?_
        refine o1 (ixo rfl rfl rfl li26 rfl (by first | omega | (simp only [List.length_cons, List.length_nil, List.length_append]; omega) | (simp; omega)) (by first | omega | (simp only [List.length_cons, List.length_nil, List.length_append]; omega) | (simp; omega))) ?_
        refine e0 (sste rfl rfl (by first | omega | (simp only [List.length_cons, List.length_nil, List.length_append]; omega) | (simp; omega)) rfl (.i (.c (.c (.n)))) ti94) ?_
        refine onil ?_
        refine xthn ?_
        refine creg ?_
        refine o1 (mv rfl) ?_
        refine o1 (iadd rfl rfl (by first | omega | (simp only [List.length_cons, List.length_nil, List.length_append]; omega) | (simp; omega)) (by first | omega | (simp only [List.length_cons, List.length_nil, List.length_append]; omega) | (simp; omega))) ?_
        refine o1 (asn rfl) ?_
        refine onil ?_
        refine xbn ?_
        refine xthn ?_
        refine creg ?_
        refine o1 (mv rfl) ?_
        refine o1 (iadd rfl rfl (by first | omega | (simp only [List.length_cons, List.length_nil, List.length_append]; omega) | (simp; omega)) (by first | omega | (simp only [List.length_cons, List.length_nil, List.length_append]; omega) | (simp; omega))) ?_
        refine o1 (asn rfl) ?_
        refine onil ?_
        refine xlq (j + 1) (by have h1 : (fun x : KRLSzSz.den => beg p x.1) (ix (KRLSzSz.z, KRLSzSz.raw.z) q1 (j : Int)).1 = false := (by rw [← hpr]; simpa using c3); rw [fl_keep (z := (KRLSzSz.z, KRLSzSz.raw.z)) hjq h1]; simp; omega) (by first | omega | (simp only []; omega)) (weak [0, 1] (by decide) (hk hH rfl) (by repeat (first | exact .n | refine .c rfl (by first | rfl | exact arq (by have h1 : (fun x : KRLSzSz.den => beg p x.1) (ix (KRLSzSz.z, KRLSzSz.raw.z) q1 (j : Int)).1 = false := (by rw [← hpr]; simpa using c3); rw [fl_keep (z := (KRLSzSz.z, KRLSzSz.raw.z)) hjq h1, show An.r ((fl (fun x : KRLSzSz.den => beg p x.1) (q1.take j)) ++ q1.drop (fl (fun x : KRLSzSz.den => beg p x.1) (q1.take j)).length) = ((fl (fun x : KRLSzSz.den => beg p x.1) (q1.take j)) ++ q1.drop (fl (fun x : KRLSzSz.den => beg p x.1) (q1.take j)).length).map (·.2) from rfl]; simp only [Int.toNat_natCast]; rw [hel, ← List.map_set, set_keep (by omega)]; simp [An.r]) | exact arq (by have h1 : (fun x : KRLSzSz.den => beg p x.1) (ix (KRLSzSz.z, KRLSzSz.raw.z) q1 (j : Int)).1 = true := (by rw [← hpr]; simpa using c3); rw [fl_drop (z := (KRLSzSz.z, KRLSzSz.raw.z)) hjq h1])) ?_)) (by repeat (first | exact .n | refine .c rfl (by first | rfl | exact ciq (by have h1 : (fun x : KRLSzSz.den => beg p x.1) (ix (KRLSzSz.z, KRLSzSz.raw.z) q1 (j : Int)).1 = false := (by rw [← hpr]; simpa using c3); rw [fl_keep (z := (KRLSzSz.z, KRLSzSz.raw.z)) hjq h1]; simp) | exact ciq (by have h1 : (fun x : KRLSzSz.den => beg p x.1) (ix (KRLSzSz.z, KRLSzSz.raw.z) q1 (j : Int)).1 = true := (by rw [← hpr]; simpa using c3); rw [fl_drop (z := (KRLSzSz.z, KRLSzSz.raw.z)) hjq h1])) ?_)))
      · repeat (first | simp only [decide_eq_true_eq] at c3 | simp only [decide_eq_false_iff_not] at c3 | simp only [beq_iff_eq] at c3 | simp only [bne_iff_ne] at c3 | simp only [Bool.not_eq_true'] at c3 | simp only [Bool.not_eq_false'] at c3 | simp only [beq_eq_false_iff_ne] at c3 | simp only [bne_eq_false_iff_eq] at c3 | simp only [Bool.not_not] at c3 | simp only [ne_eq] at c3 | simp only [Int.not_lt] at c3 | simp only [Int.not_le] at c3 | simp only [gt_iff_lt] at c3 | simp only [ge_iff_le] at c3 | simp only [Bool.not_eq_true] at c3 | simp only [Bool.not_eq_false] at c3 | simp only [Decidable.not_not] at c3)
        refine cskip ?_
        refine xbn ?_
        refine xthn ?_
        refine creg ?_
        refine o1 (mv rfl) ?_
        refine o1 (iadd rfl rfl (by first | omega | (simp only [List.length_cons, List.length_nil, List.length_append]; omega) | (simp; omega)) (by first | omega | (simp only [List.length_cons, List.length_nil, List.length_append]; omega) | (simp; omega))) ?_
        refine o1 (asn rfl) ?_
        refine onil ?_
        refine xlq (j + 1) (by have h1 : (fun x : KRLSzSz.den => beg p x.1) (ix (KRLSzSz.z, KRLSzSz.raw.z) q1 (j : Int)).1 = true := (by rw [← hpr]; simpa using c3); rw [fl_drop (z := (KRLSzSz.z, KRLSzSz.raw.z)) hjq h1]; omega) (by first | omega | (simp only []; omega)) (weak [0, 1] (by decide) (hk hH rfl) (by repeat (first | exact .n | refine .c rfl (by first | rfl | exact arq (by have h1 : (fun x : KRLSzSz.den => beg p x.1) (ix (KRLSzSz.z, KRLSzSz.raw.z) q1 (j : Int)).1 = false := (by rw [← hpr]; simpa using c3); rw [fl_keep (z := (KRLSzSz.z, KRLSzSz.raw.z)) hjq h1, show An.r ((fl (fun x : KRLSzSz.den => beg p x.1) (q1.take j)) ++ q1.drop (fl (fun x : KRLSzSz.den => beg p x.1) (q1.take j)).length) = ((fl (fun x : KRLSzSz.den => beg p x.1) (q1.take j)) ++ q1.drop (fl (fun x : KRLSzSz.den => beg p x.1) (q1.take j)).length).map (·.2) from rfl]; simp only [Int.toNat_natCast]; rw [hel, ← List.map_set, set_keep (by omega)]; simp [An.r]) | exact arq (by have h1 : (fun x : KRLSzSz.den => beg p x.1) (ix (KRLSzSz.z, KRLSzSz.raw.z) q1 (j : Int)).1 = true := (by rw [← hpr]; simpa using c3); rw [fl_drop (z := (KRLSzSz.z, KRLSzSz.raw.z)) hjq h1])) ?_)) (by repeat (first | exact .n | refine .c rfl (by first | rfl | exact ciq (by have h1 : (fun x : KRLSzSz.den => beg p x.1) (ix (KRLSzSz.z, KRLSzSz.raw.z) q1 (j : Int)).1 = false := (by rw [← hpr]; simpa using c3); rw [fl_keep (z := (KRLSzSz.z, KRLSzSz.raw.z)) hjq h1]; simp) | exact ciq (by have h1 : (fun x : KRLSzSz.den => beg p x.1) (ix (KRLSzSz.z, KRLSzSz.raw.z) q1 (j : Int)).1 = true := (by rw [← hpr]; simpa using c3); rw [fl_drop (z := (KRLSzSz.z, KRLSzSz.raw.z)) hjq h1])) ?_)))
    · repeat (first | simp only [decide_eq_true_eq] at c2 | simp only [decide_eq_false_iff_not] at c2 | simp only [beq_iff_eq] at c2 | simp only [bne_iff_ne] at c2 | simp only [Bool.not_eq_true'] at c2 | simp only [Bool.not_eq_false'] at c2 | simp only [beq_eq_false_iff_ne] at c2 | simp only [bne_eq_false_iff_eq] at c2 | simp only [Bool.not_not] at c2 | simp only [ne_eq] at c2 | simp only [Int.not_lt] at c2 | simp only [Int.not_le] at c2 | simp only [gt_iff_lt] at c2 | simp only [ge_iff_le] at c2 | simp only [Bool.not_eq_true] at c2 | simp only [Bool.not_eq_false] at c2 | simp only [Decidable.not_not] at c2)
      refine cexit ?_
      refine xthe ?_
      refine xle ?_
      refine xbh ?_
      refine xthn ?_
      refine cseq ?_
      refine cprt (k := 0) rfl (by rw [hAl]; omega) (fun cp hc1 hc2 => ?_)
      refine creg ?_
      refine o1 (mv rfl) ?_
      refine o1 (mv rfl) ?_
      refine o1 (psubl rfl rfl rfl li26 rfl (by first | omega | (simp only [List.length_cons, List.length_nil, List.length_append]; omega) | (simp; omega)) (by first | omega | (simp only [List.length_cons, List.length_nil, List.length_append]; omega) | (simp; omega))) ?_
      refine e9 (sclear rfl rfl (mi26).raw (L rfl) (by first | omega | (simp only [List.length_cons, List.length_nil, List.length_append]; omega) | (simp; omega))) ?_
      refine onil ?_
      refine xthn ?_
      refine cseq ?_
      refine creg ?_
      refine o1 (mv rfl) ?_
      refine o1 (mv rfl) ?_
      refine e1 (av := .own 2) (spcut rfl rfl rfl li26 rfl (by first | omega | (simp only [List.length_cons, List.length_nil, List.length_append]; omega) | (simp; omega)) (by first | omega | (simp only [List.length_cons, List.length_nil, List.length_append]; omega) | (simp; omega))) ?_
      refine owk (wnorm (.c rfl (.c (o := .pile _) rfl (.c (o := .prt _ _ _ _) rfl (.n)))) rfl) ?_
      refine o1 (asn rfl) ?_
      refine onil ?_
      refine xthn ?_
      refine cret ?_
      refine xwk (parr (k := 2) (An.r (fl (fun x : KRLSzSz.den => beg p x.1) (q1))) rfl (by exact pext_all (by have := hAl; simp only [pblit_len, pext_len, List.length_append, List.length_take, List.length_drop, List.length_replicate, List.length_map] at *; first | omega | (simp [hAl]; done) | (simp [hAl]; omega)) (by have e1 : q1.take j = q1 := List.take_of_length_le (by omega); simp only [e1] at *; rw [List.take_append_of_le_length (by simp), List.take_append_of_le_length (by simp), List.take_of_length_le (by simp)]; simp [An.r]))) ?_
      refine xwk (wclose (k := 2) [1] (fl (fun x : KRLSzSz.den => beg p x.1) (q1)) (An.e (q1.filter fun z => (fun x : KRLSzSz.den => beg p x.1) z.1)) rfl rfl (.c (j := 1) rfl (.n)) (fl_ok ho1) (by exact fl_perm (fun x : KRLSzSz.den => beg p x.1) q1) (by decide)) ?_
      refine retg (bs := [.own 1]) (ob' := [.hed, .arr true 94 KRLSzSz (a.filter fun x => !(fun x : KRLSzSz.den => beg p x.1) x)]) [0, 2] rfl (.t rfl (.n)) (by decide) (hk hH rfl) (.c rfl rfl (.c rfl (arq ?_) (.n))) (lc rfl rfl) rfl
      all_goals first | rfl | (show An.d (fl (fun x : KRLSzSz.den => beg p x.1) (q1)) = _; rw [show An.d (fl (fun x : KRLSzSz.den => beg p x.1) (q1)) = (fl (fun x : KRLSzSz.den => beg p x.1) (q1)).map (·.1) from rfl, fl_d]; exact congrArg _ hd1)

end Go.Proofs.YtifpekpmnlcmoaaE
