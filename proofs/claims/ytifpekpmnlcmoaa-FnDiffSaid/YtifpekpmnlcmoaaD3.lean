import Derived.Test.YtifpekpmnlcmoaaProg
import Derived.Test.YtifpekpmnlcmoaaE33
import Derived.Test.YtifpekpmnlcmoaaD2
set_option linter.unusedVariables false
set_option linter.unusedSimpArgs false
set_option maxRecDepth 100000
namespace Go.Proofs.YtifpekpmnlcmoaaE
open Go Go.RowKit Go.Shelf Go.Proofs
theorem ui3 : (Go.Proofs.Try.prog).underlying 3 = some (.int .i64) := by kernel_rfl
theorem ui162 : (Go.Proofs.Try.prog).underlying 162 = some (.int .u64) := by kernel_rfl
theorem ov176 : ∀ (v u : Value) (w : World), (callFunc 176 #[v, u]).run Go.Proofs.Try.prog w = ((Extern.SlicesOverlaps.overlaps #[26, 26] #[4] #[v, u]).run Go.Proofs.Try.prog w).andThen fun x w' => .ok (.value x) w' := fun v u w => by
  rw [run_callFunc_extern Go.Proofs.Try.func176 (by kernel_rfl) (by kernel_rfl) (by kernel_rfl) (e := Extern.SlicesOverlaps.overlaps #[26, 26] #[4]) (by kernel_rfl)]

theorem pblit_app {α : Type} {A B C : List (Option α)} {ys : List α} {n : Nat} (hn : n = A.length) (h : B.length = ys.length) : pblit (A ++ B ++ C) n ys = A ++ ys.map some ++ C := by
  subst hn
  have e1 : (A ++ B ++ C).take A.length = A := by rw [List.append_assoc, List.take_left]
  have e2 : (A ++ B ++ C).drop (A.length + B.length) = C := by rw [← List.length_append, List.drop_left]
  rw [pblit, ← h, e1, e2]
theorem ins_1 {α : Type} {r rv : List α} {z : α} {i k m : Nat} (hi : i < r.length) (hv : rv.length = 1) (hk : k = r.length + 1 - i) (hm : 1 ≤ m) :
    pblit ((r.take i ++ List.replicate k z).map some) i (rv.take m) = (r.take i).map some ++ rv.map some ++ (List.replicate (r.length - i) z).map some := by
  have e1 : rv.take m = rv := List.take_of_length_le (by omega)
  have hl : ((r.take i).map some).length = i := by rw [List.length_map, List.length_take]; omega
  have hk' : k = (r.length - i) + 1 := by omega
  rw [e1, hk', List.replicate_succ, List.map_append, List.map_cons, ← List.singleton_append (l := List.map some _), ← List.append_assoc]
  rw [pblit_app hl.symm (by rw [hv]; rfl)]
theorem ins_nr {α : Type} {r rv : List α} {z : α} {i j p : Nat} (hi : i < r.length) (hv : rv.length = 1) (hj : j = i + 1) (hp : r.length - i ≤ p) :
    pblit ((r.take i).map some ++ rv.map some ++ (List.replicate (r.length - i) z).map some) j ((r.drop i).take p) = (r.take i ++ rv ++ r.drop i).map some := by
  have e2 : (r.drop i).take p = r.drop i := List.take_of_length_le (by rw [List.length_drop]; omega)
  have hl : ((r.take i).map some).length = i := by rw [List.length_map, List.length_take]; omega
  have := pblit_app (A := (r.take i).map some ++ rv.map some) (B := (List.replicate (r.length - i) z).map some) (C := []) (ys := r.drop i) (n := j) (by rw [List.length_append, hl, List.length_map, hv]; exact hj) (by rw [List.length_map, List.length_replicate, List.length_drop])
  rw [List.append_nil, List.append_nil] at this
  rw [e2, this, List.map_append, List.map_append]
theorem ins_0 {α : Type} {r : List α} {n : Nat} (hn : n = r.length + 1) : pext (r.map some) n = r.map some ++ [none] := by
  rw [pext, List.take_of_length_le (by rw [List.length_map]; omega), List.length_map, hn, show r.length + 1 - r.length = 1 by omega]; rfl
theorem ins_hd {α : Type} {r : List α} {i m : Nat} (hi : i ≤ r.length) (hm : m = r.length - i) : ((r.map some ++ [none] : List (Option α)).drop i).take m = (r.drop i).map some := by
  rw [List.drop_append_of_le_length (by rw [List.length_map]; exact hi), List.take_append_of_le_length (by rw [List.length_drop, List.length_map]; omega), List.take_of_length_le (by rw [List.length_drop, List.length_map]; omega), List.map_drop]
theorem ins_2 {α : Type} {r : List α} {i j : Nat} (hi : i < r.length) (hj : j = i + 1) :
    pblit (r.map some ++ [none]) j (r.drop i) = (r.take (i + 1)).map some ++ (r.drop i).map some := by
  have hl1 : ((r.take (i + 1)).map some).length = i + 1 := by rw [List.length_map, List.length_take]; omega
  have e3 : r.map some ++ [none] = (r.take (i + 1)).map some ++ ((r.drop (i + 1)).map some ++ [none]) ++ [] := by
    rw [List.append_nil, ← List.append_assoc, ← List.map_append, List.take_append_drop]
  rw [e3, pblit_app (by rw [hl1]; exact hj) (by rw [List.length_append, List.length_map, List.length_drop, List.length_drop]; simp only [List.length_cons, List.length_nil]; omega), List.append_nil]
theorem ins_rm {α : Type} {r rv : List α} {i m : Nat} (hi : i < r.length) (hv : rv.length = 1) (hm : 1 ≤ m) :
    pblit ((r.take (i + 1)).map some ++ (r.drop i).map some) i (rv.take m) = (r.take i ++ rv ++ r.drop i).map some := by
  have e1 : rv.take m = rv := List.take_of_length_le (by omega)
  have hl : ((r.take i).map some).length = i := by rw [List.length_map, List.length_take]; omega
  have hx : (r.take (i + 1)).map some = (r.take i).map some ++ [some r[i]] := by
    rw [List.take_add_one, List.getElem?_eq_getElem hi]; simp only [Option.toList_some, List.map_append, List.map_cons, List.map_nil]
  rw [e1, hx, pblit_app hl.symm (by rw [hv]; rfl), List.map_append, List.map_append]
theorem ins_perm {ts : Tys} (q p : An ts) (i : Nat) : (An.e (q.take i ++ p ++ q.drop i) ++ []).Perm (An.e q ++ (An.e p ++ [])) := by
  rw [List.append_nil, List.append_nil, ← An.e_app]
  refine flatMap_perm ?_
  rw [List.append_assoc]
  refine (List.Perm.append_left _ List.perm_append_comm).trans ?_
  rw [← List.append_assoc, List.take_append_drop]
theorem ins_ok {ts : Tys} {q p : An ts} {i : Nat} (h1 : An.ok q) (h2 : An.ok p) : An.ok (q.take i ++ p ++ q.drop i) := by
  intro x hx
  rcases List.mem_append.1 hx with hx | hx
  · rcases List.mem_append.1 hx with hx | hx
    · exact h1 x (List.mem_of_mem_take hx)
    · exact h2 x hx
  · exact h1 x (List.mem_of_mem_drop hx)
theorem ins_r {ts : Tys} (q p : An ts) (i : Nat) : An.r (q.take i ++ p ++ q.drop i) = (An.r q).take i ++ An.r p ++ (An.r q).drop i := by simp [An.r, List.map_take, List.map_drop]
theorem ins_d {ts : Tys} (q p : An ts) (i : Nat) : An.d (q.take i ++ p ++ q.drop i) = (An.d q).take i ++ An.d p ++ (An.d q).drop i := by simp [An.d, List.map_take, List.map_drop]


theorem mid_eq {lo hi : Nat} (h : (lo : Int) + hi ≤ 9223372036854775807) : IntKind.i64.wrap ((IntKind.u64.wrap ((lo : Int) + hi)).fdiv (2 ^ min (Int.toNat 1) IntKind.u64.bits)) = (((lo + hi) / 2 : Nat) : Int) := by
  have e1 : IntKind.u64.wrap ((lo : Int) + hi) = (lo : Int) + hi := by
    simp only [IntKind.wrap, IntKind.bits, IntKind.signed]; simp; omega
  have e2 : (2 : Int) ^ min (Int.toNat 1) IntKind.u64.bits = 2 := rfl
  rw [e1, e2, Int.fdiv_eq_ediv_of_nonneg _ (by omega)]
  simp only [IntKind.wrap, IntKind.bits, IntKind.signed]; simp; omega
/-- How many stand ahead. -/
def cut {α : Type} (p : α → Bool) (xs : List α) : Nat := (xs.takeWhile p).length
theorem cut_eq {α : Type} (p : α → Bool) (z : α) : ∀ (xs : List α) (k : Nat), k ≤ xs.length → (∀ i : Nat, i < k → p (ix z xs (i : Int)) = true) → (k < xs.length → p (ix z xs (k : Int)) = false) → cut p xs = k
  | [], k, h, _, _ => by simp at h; subst h; rfl
  | x :: xs, 0, _, _, h => by
    have : p x = false := h (by simp)
    simp [cut, List.takeWhile_cons, this]
  | x :: xs, k + 1, h1, h2, h3 => by
    have hx : p x = true := h2 0 (by omega)
    have := cut_eq p z xs k (by simpa using h1) (fun i hi => by have := h2 (i + 1) (by omega); simpa [ix] using this) (fun hk => by have := h3 (by simpa using hk); simpa [ix] using this)
    simp only [cut, List.takeWhile_cons, hx, if_true, List.length_cons] at this ⊢
    omega
theorem cut_le {α : Type} {p : α → Bool} {xs : List α} : cut p xs ≤ xs.length := (List.takeWhile_sublist p).length_le
theorem cut_take {α : Type} (p : α → Bool) : ∀ (xs : List α), xs.take (cut p xs) = xs.takeWhile p
  | [] => rfl
  | x :: xs => by
    cases h : p x with
    | true => simp only [cut, List.takeWhile_cons, h, if_true, List.length_cons, List.take_succ_cons]; exact congrArg _ (cut_take p xs)
    | false => simp [cut, List.takeWhile_cons, h]
theorem cut_drop {α : Type} (p : α → Bool) : ∀ (xs : List α), xs.drop (cut p xs) = xs.dropWhile p
  | [] => rfl
  | x :: xs => by
    cases h : p x with
    | true => simp only [cut, List.takeWhile_cons, List.dropWhile_cons, h, if_true, List.length_cons, List.drop_succ_cons]; exact cut_drop p xs
    | false => simp [cut, List.takeWhile_cons, List.dropWhile_cons, h]
/-- Once it is no, it stays no. -/
def Mono {α : Type} (p : α → Bool) (z : α) (xs : List α) : Prop := ∀ i j : Nat, i ≤ j → j < xs.length → p (ix z xs (j : Int)) = true → p (ix z xs (i : Int)) = true
theorem mono_of {α : Type} {p : α → Bool} {z : α} {xs : List α} {R : α → α → Prop} (h : xs.Pairwise R) (hR : ∀ x y, R x y → p y = true → p x = true) : Mono p z xs := by
  intro i j hij hj hp
  rcases Nat.lt_or_eq_of_le hij with h1 | rfl
  · have := List.pairwise_iff_getElem.1 h i j (by omega) hj h1
    simp only [ix, Int.toNat_natCast, List.getD_eq_getElem?_getD, List.getElem?_eq_getElem hj, List.getElem?_eq_getElem (show i < xs.length by omega), Option.getD_some] at hp ⊢
    exact hR _ _ this hp
  · exact hp

theorem c_impl_setAt_2 : Fe Go.Proofs.Try.prog 164 (ι := KRLSzSz.den × StrS) (fun | (x, p) => [.agg (avs 2 KRLSzSz x), .c (.l KS) p]) (fun | (x, p) => []) (fun | (x, p) => True) (fun | (x, p) => (.c (.i .i64) (cmpS x.1 p), [])) := by
  refine fnE (n := 9) Go.Proofs.Try.func164 rfl rfl (ent Go.Proofs.Try.func164 (by kernel_rfl) rfl) ?_
  rintro ⟨x, p⟩ hx
  refine ⟨Le rfl, fun w0 S0 H Z hH => ?_⟩
  try simp only [] at hx
  refine cseq ?_
  refine creg ?_
  refine e1 (av := .bp 0 0) (sboxn rfl rfl) ?_
  refine o1 (asn rfl) ?_
  refine onil ?_
  refine xthn ?_
  refine cseq ?_
  refine creg ?_
  refine o1 (fab rfl fi94_0) ?_
  refine o1 (ldb rfl rfl rfl ti40) ?_
  refine o1 (mv rfl) ?_
  refine ce c_slices_Compare_string_string (_, _) [] [] (.c rfl (.c (.e rfl)) (.c rfl (.c (.e rfl)) (.n))) (by first | trivial | assumption | omega | (simp only []; omega) | (refine ?_; omega) | (constructor <;> omega) | (refine ⟨?_, ?_⟩ <;> (first | assumption | omega | (simp; omega)))) (by decide) (by decide) (.n) rfl (.inl rfl) ?_ (.inl rfl)
  refine o1 (asn rfl) ?_
  refine onil ?_
  refine xthn ?_
  refine cret ?_
  refine retg (bs := [.c (.i .i64) (cmpS x.1 p)]) (ob' := []) [] rfl (.t rfl (.n)) (by decide) (hk hH rfl) (.n) (lc (ciq ?_) rfl) rfl
  all_goals first | rfl | (rfl)

theorem c_slices_BinarySearchFunc_impl_Leaf_impl_Leaf_string_setAt : Fr Go.Proofs.Try.prog 163 (ι := List KRLSzSz.den × StrS) (κ := Int × Bool) (fun | (a, p) => [.c (.l KRLSzSz) a, .c (.l KS) p, .fn 164 []]) (fun | (a, p) => []) (fun | (a, p) => Mono (fun x : KRLSzSz.den => decide (cmpS x.1 p < 0)) KRLSzSz.z a ∧ a.length ≤ 4611686018427387903) (fun | (a, p), (k, b) => (cut (fun x : KRLSzSz.den => decide (cmpS x.1 p < 0)) a : Int) = k) (fun | (a, p), (k, b) => (.tup [.c (.i .i64) k, .c .b b], [])) := by
  refine fnEr (n := 49) Go.Proofs.Try.func163 rfl rfl (ent Go.Proofs.Try.func163 (by kernel_rfl) rfl) ?_
  rintro ⟨a, p⟩ hx
  refine ⟨Le rfl, fun w0 S0 H Z hH => ?_⟩
  try simp only [] at hx
  refine cseq ?_
  refine creg ?_
  refine o1 (asn rfl) ?_
  refine o1 (asn rfl) ?_
  refine onil ?_
  refine xthn ?_
  refine cseq ?_
  refine creg ?_
  refine o1 (mv rfl) ?_
  refine ofact (t := 12) rfl fun hl1 => ?_
  refine o1 (lenl rfl li26) ?_
  refine o1 (asn rfl) ?_
  refine onil ?_
  refine xthn ?_
  refine cseq ?_
  refine creg ?_
  refine o1 (mv rfl) ?_
  refine o1 (asn rfl) ?_
  refine o1 (asn rfl) ?_
  refine onil ?_
  refine xthn ?_
  refine cseq ?_
  refine cblock ?_
  refine clk (ι := Nat × Nat) (.c 0 rfl (.c 1 rfl (.c 2 rfl (.c 8 rfl (.n))))) (fun | (lo, hi), r => (9, .c (.i .i64) ((lo : Int))) :: (10, .c (.i .i64) ((hi : Int))) :: r) (fun | (lo, hi), r => r) (fun | (lo, hi) => lo ≤ hi ∧ hi ≤ a.length ∧ (∀ i : Nat, i < lo → (fun x : KRLSzSz.den => decide (cmpS x.1 p < 0)) (ix KRLSzSz.z a (i : Int)) = true) ∧ (hi < a.length → (fun x : KRLSzSz.den => decide (cmpS x.1 p < 0)) (ix KRLSzSz.z a (hi : Int)) = false)) (fun | (lo, hi) => hi - lo) (0, a.length) (by exact ⟨Nat.zero_le _, Nat.le_refl _, fun i h => absurd h (Nat.not_lt_zero _), fun h => absurd h (Nat.lt_irrefl _)⟩) (weak [] (by decide) (hk hH rfl) (by repeat (first | exact .n | refine .c rfl (by first | rfl) ?_)) (by repeat (first | exact .n | refine .c rfl (by first | rfl | exact ciq (by omega)) ?_))) ?_
  rintro ⟨lo, hi⟩ i0
  try simp only [] at i0
  refine cseq ?_
  refine cseq ?_
  refine creg ?_
  refine o1 (mv rfl) ?_
  refine o1 (mv rfl) ?_
  refine o1 (ibin rfl rfl rfl) ?_
  refine onil ?_
  refine xthn ?_
  refine ccond rfl (fun c1 => ?_) (fun c1 => ?_)
  · try simp only [q1, q2, q3, q4, q5, q6, q7, q8, q9, q10, q11, q12, q13, q14, q15, q16, q17] at c1
    refine cskip ?_
    refine xthn ?_
    refine cblock ?_
    refine cseq ?_
    refine creg ?_
    refine o1 (mv rfl) ?_
    refine o1 (mv rfl) ?_
    refine o1 (iadd rfl rfl (by first | omega | (simp only [List.length_cons, List.length_nil, List.length_append]; omega) | (simp; omega)) (by first | omega | (simp only [List.length_cons, List.length_nil, List.length_append]; omega) | (simp; omega))) ?_
    refine o1 (cvi rfl ui3 ui162) ?_
    refine o1 (ishr rfl rfl (by decide)) ?_
    refine o1 (cvi rfl ui162 ui3) ?_
    refine o1 (asn rfl) ?_
    refine onil ?_
    refine xthn ?_
    refine cseq ?_
    obtain ⟨m, hm⟩ : ∃ m : Nat, m = (lo + hi) / 2 := ⟨_, rfl⟩
    refine cwk (wsl (t := 11) (.c (.i .i64) ((m : Int))) rfl (civ (by rw [hm]; exact mid_eq (by omega)))) ?_
    refine creg ?_
    refine o1 (mv rfl) ?_
    refine o1 (mv rfl) ?_
    refine o1 (mv rfl) ?_
    refine o1 (ixl rfl rfl li26 rfl (by first | omega | (simp only [List.length_cons, List.length_nil, List.length_append]; omega) | (simp; omega)) (by first | omega | (simp only [List.length_cons, List.length_nil, List.length_append]; omega) | (simp; omega))) ?_
    refine o1 (ldrn rfl ti94 (Le rfl)) ?_
    refine o1 (mv rfl) ?_
    refine vce c_impl_setAt_2 (_, _) [] [] rfl 2 (.c rfl (.c (.e rfl)) (.c rfl (.c (.e rfl)) (.n))) (.n) (by first | trivial | assumption | omega | (simp only []; omega) | (refine ?_; omega) | (constructor <;> omega) | (refine ⟨?_, ?_⟩ <;> (first | assumption | omega | (simp; omega)))) (by decide) (by decide) (.n) rfl (.inl rfl) ?_ (.inl rfl)
    refine o1 (ibin rfl rfl rfl) ?_
    refine onil ?_
    refine xthn ?_
    refine ccond rfl (fun c2 => ?_) (fun c2 => ?_)
    · try simp only [q1, q2, q3, q4, q5, q6, q7, q8, q9, q10, q11, q12, q13, q14, q15, q16, q17] at c2
      refine creg ?_
      refine o1 (mv rfl) ?_
      refine o1 (iadd rfl rfl (by first | omega | (simp only [List.length_cons, List.length_nil, List.length_append]; omega) | (simp; omega)) (by first | omega | (simp only [List.length_cons, List.length_nil, List.length_append]; omega) | (simp; omega))) ?_
      refine o1 (asn rfl) ?_
      refine onil ?_
      refine xbn ?_
      refine xlq (m + 1, hi) (by exact ⟨by omega, i0.2.1, fun i hi => hx.1 i m (by omega) (by omega) (decide_eq_true c2), i0.2.2.2⟩) (by first | omega | (simp only []; omega)) (weak [] (by decide) (hk hH rfl) (by repeat (first | exact .n | refine .c rfl (by first | rfl) ?_)) (by repeat (first | exact .n | refine .c rfl (by first | rfl | exact ciq (by omega)) ?_)))
    · try simp only [q1, q2, q3, q4, q5, q6, q7, q8, q9, q10, q11, q12, q13, q14, q15, q16, q17] at c2
      refine creg ?_
      refine o1 (mv rfl) ?_
      refine o1 (asn rfl) ?_
      refine onil ?_
      refine xbn ?_
      refine xlq (lo, m) (by exact ⟨by omega, by omega, i0.2.2.1, fun _ => decide_eq_false (by omega)⟩) (by first | omega | (simp only []; omega)) (weak [] (by decide) (hk hH rfl) (by repeat (first | exact .n | refine .c rfl (by first | rfl) ?_)) (by repeat (first | exact .n | refine .c rfl (by first | rfl | exact ciq (by omega)) ?_)))
  · try simp only [q1, q2, q3, q4, q5, q6, q7, q8, q9, q10, q11, q12, q13, q14, q15, q16, q17] at c1
    refine cexit ?_
    refine xthe ?_
    refine xle ?_
    refine xbh ?_
    refine xthn ?_
    refine cseq ?_
    refine creg ?_
    refine o1 (mv rfl) ?_
    refine o1 (mv rfl) ?_
    refine o1 (mv rfl) ?_
    refine o1 (ibin rfl rfl rfl) ?_
    refine o1 (mv rfl) ?_
    refine ocase (t := 39) rfl (fun c3 => ?_) (fun c3 => ?_)
    · try simp only [q1, q2, q3, q4, q5, q6, q7, q8, q9, q10, q11, q12, q13, q14, q15, q16, q17] at c3
      refine og (mv rfl) ?_
      refine og (mv rfl) ?_
      refine og (mv rfl) ?_
      refine og (ixl rfl rfl li26 rfl (by first | omega | (simp only [List.length_cons, List.length_nil, List.length_append]; omega) | (simp; omega)) (by first | omega | (simp only [List.length_cons, List.length_nil, List.length_append]; omega) | (simp; omega))) ?_
      refine og (ldrn rfl ti94 (Le rfl)) ?_
      refine og (mv rfl) ?_
      refine vce c_impl_setAt_2 (_, _) [] [] rfl 2 (.c rfl (.c (.e rfl)) (.c rfl (.c (.e rfl)) (.n))) (.n) (by first | trivial | assumption | omega | (simp only []; omega) | (refine ?_; omega) | (constructor <;> omega) | (refine ⟨?_, ?_⟩ <;> (first | assumption | omega | (simp; omega)))) (by decide) (by decide) (.n) rfl (.inl rfl) ?_ (wgd rfl rfl rfl)
      refine og (ibin rfl rfl rfl) ?_
      refine o1 (pickT rfl rfl) ?_
      refine o1 (asn rfl) ?_
      refine o1 (asn rfl) ?_
      refine onil ?_
      refine xthn ?_
      refine cret ?_
      refine rety2 (_, _) (retg (bs := [.c (.i .i64) _, .c .b _]) (ob' := []) [] rfl (.t rfl (.t rfl (.n))) (by decide) (hk hH rfl) (.n) (lc rfl (lc rfl rfl)) rfl) ?_
      try simp only []
      have e : lo = hi := (by omega)
      exact congrArg Nat.cast (cut_eq (fun x : KRLSzSz.den => decide (cmpS x.1 p < 0)) KRLSzSz.z a lo (by omega) i0.2.2.1 (fun h => by rw [e]; exact i0.2.2.2 (by omega)))
    · try simp only [q1, q2, q3, q4, q5, q6, q7, q8, q9, q10, q11, q12, q13, q14, q15, q16, q17] at c3
      refine os rfl ?_
      refine os rfl ?_
      refine os rfl ?_
      refine os rfl ?_
      refine os rfl ?_
      refine os rfl ?_
      refine os rfl ?_
      refine os rfl ?_
      refine o1 (pickF rfl rfl) ?_
      refine o1 (asn rfl) ?_
      refine o1 (asn rfl) ?_
      refine onil ?_
      refine xthn ?_
      refine cret ?_
      refine rety2 (_, _) (retg (bs := [.c (.i .i64) _, .c .b _]) (ob' := []) [] rfl (.t rfl (.t rfl (.n))) (by decide) (hk hH rfl) (.n) (lc rfl (lc rfl rfl)) rfl) ?_
      try simp only []
      have e : lo = hi := (by omega)
      exact congrArg Nat.cast (cut_eq (fun x : KRLSzSz.den => decide (cmpS x.1 p < 0)) KRLSzSz.z a lo (by omega) i0.2.2.1 (fun h => by rw [e]; exact i0.2.2.2 (by omega)))

theorem c_slices_Insert_impl_Leaf_impl_Leaf : Fe Go.Proofs.Try.prog 165 (ι := List KRLSzSz.den × Nat × KRLSzSz.den) (fun | (a, i, x) => [.own 0, .c (.i .i64) (i : Int), .own 1]) (fun | (a, i, x) => [.arr true 94 KRLSzSz a, .arr true 94 KRLSzSz [x]]) (fun | (a, i, x) => i ≤ a.length ∧ a.length ≤ 1048576) (fun | (a, i, x) => (.own 2, [.hed, .hed, .arr true 94 KRLSzSz (a.take i ++ x :: a.drop i)])) := by
  refine fnE (n := 95) Go.Proofs.Try.func165 rfl rfl (ent Go.Proofs.Try.func165 (by kernel_rfl) rfl) ?_
  rintro ⟨a, i, x⟩ hx
  refine ⟨Le rfl, fun w0 S0 H Z hH => ?_⟩
  try simp only [] at hx
  have hx1 : ([x] : List KRLSzSz.den).length = 1 := rfl
  refine cseq ?_
  refine creg ?_
  refine o1 (asn rfl) ?_
  refine onil ?_
  refine xthn ?_
  refine cseq ?_
  refine creg ?_
  refine o1 (mv rfl) ?_
  refine o1 (mv rfl) ?_
  refine o1 (cutoz rfl rfl rfl li26 (by first | exact ins_hd (by omega) (by first | (simp; done) | (simp; omega)) | omega | (simp only [List.length_append, List.length_map, List.length_take, List.length_drop, List.length_replicate, pext_len, Int.toNat_natCast, List.length_cons, List.length_nil] at *; omega) | (simp only [Int.toNat_natCast]; rw [List.take_of_length_le (by simp; done), List.map_drop]; done) | (simp; omega) | (simp; done)) (by first | exact ins_hd (by omega) (by first | (simp; done) | (simp; omega)) | omega | (simp only [List.length_append, List.length_map, List.length_take, List.length_drop, List.length_replicate, pext_len, Int.toNat_natCast, List.length_cons, List.length_nil] at *; omega) | (simp only [Int.toNat_natCast]; rw [List.take_of_length_le (by simp; done), List.map_drop]; done) | (simp; omega) | (simp; done))) ?_
  refine onil ?_
  refine xthn ?_
  refine cseq ?_
  refine creg ?_
  refine o1 (mv rfl) ?_
  refine ofacto (k := 1) rfl fun hl1 => ?_
  refine o1 (leno rfl rfl li26) ?_
  refine o1 (asn rfl) ?_
  refine onil ?_
  refine xthn ?_
  refine cseq ?_
  refine cseq ?_
  refine creg ?_
  refine o1 (mv rfl) ?_
  refine o1 (ibin rfl rfl rfl) ?_
  refine onil ?_
  refine xthn ?_
  refine ccond rfl (fun c1 => ?_) (fun c1 => ?_)
  · repeat (first | simp only [decide_eq_true_eq] at c1 | simp only [decide_eq_false_iff_not] at c1 | simp only [beq_iff_eq] at c1 | simp only [bne_iff_ne] at c1 | simp only [Bool.not_eq_true'] at c1 | simp only [Bool.not_eq_false'] at c1 | simp only [beq_eq_false_iff_ne] at c1 | simp only [bne_eq_false_iff_eq] at c1 | simp only [Bool.not_not] at c1 | simp only [ne_eq] at c1 | simp only [Int.not_lt] at c1 | simp only [Int.not_le] at c1 | simp only [gt_iff_lt] at c1 | simp only [ge_iff_le] at c1 | simp only [Bool.not_eq_true] at c1 | simp only [Bool.not_eq_false] at c1 | simp only [Decidable.not_not] at c1)
    simp at c1
  · repeat (first | simp only [decide_eq_true_eq] at c1 | simp only [decide_eq_false_iff_not] at c1 | simp only [beq_iff_eq] at c1 | simp only [bne_iff_ne] at c1 | simp only [Bool.not_eq_true'] at c1 | simp only [Bool.not_eq_false'] at c1 | simp only [beq_eq_false_iff_ne] at c1 | simp only [bne_eq_false_iff_eq] at c1 | simp only [Bool.not_not] at c1 | simp only [ne_eq] at c1 | simp only [Int.not_lt] at c1 | simp only [Int.not_le] at c1 | simp only [gt_iff_lt] at c1 | simp only [ge_iff_le] at c1 | simp only [Bool.not_eq_true] at c1 | simp only [Bool.not_eq_false] at c1 | simp only [Decidable.not_not] at c1)
    refine cskip ?_
    refine xthn ?_
    refine cseq ?_
    refine creg ?_
    refine o1 (mv rfl) ?_
    refine ofacto (k := 0) rfl fun hl2 => ?_
    refine o1 (leno rfl rfl li26) ?_
    refine o1 (asn rfl) ?_
    refine onil ?_
    refine xthn ?_
    refine cseq ?_
    refine cseq ?_
    refine creg ?_
    refine o1 (mv rfl) ?_
    refine o1 (mv rfl) ?_
    refine o1 (ibin rfl rfl rfl) ?_
    refine onil ?_
    refine xthn ?_
    refine ccond rfl (fun c2 => ?_) (fun c2 => ?_)
    · repeat (first | simp only [decide_eq_true_eq] at c2 | simp only [decide_eq_false_iff_not] at c2 | simp only [beq_iff_eq] at c2 | simp only [bne_iff_ne] at c2 | simp only [Bool.not_eq_true'] at c2 | simp only [Bool.not_eq_false'] at c2 | simp only [beq_eq_false_iff_ne] at c2 | simp only [bne_eq_false_iff_eq] at c2 | simp only [Bool.not_not] at c2 | simp only [ne_eq] at c2 | simp only [Int.not_lt] at c2 | simp only [Int.not_le] at c2 | simp only [gt_iff_lt] at c2 | simp only [ge_iff_le] at c2 | simp only [Bool.not_eq_true] at c2 | simp only [Bool.not_eq_false] at c2 | simp only [Decidable.not_not] at c2)
      refine cseq ?_
      refine creg ?_
      refine o1 (mv rfl) ?_
      refine o1 (mv rfl) ?_
      refine e1 (av := .own 2) (sappd (k := 0) (j := 1) rfl rfl rfl rfl rfl rfl mi26 (L rfl) (by first | exact ins_hd (by omega) (by first | (simp; done) | (simp; omega)) | omega | (simp only [List.length_append, List.length_map, List.length_take, List.length_drop, List.length_replicate, pext_len, Int.toNat_natCast, List.length_cons, List.length_nil] at *; omega) | (simp only [Int.toNat_natCast]; rw [List.take_of_length_le (by simp; done), List.map_drop]; done) | (simp; omega) | (simp; done)) (by first | exact ins_hd (by omega) (by first | (simp; done) | (simp; omega)) | omega | (simp only [List.length_append, List.length_map, List.length_take, List.length_drop, List.length_replicate, pext_len, Int.toNat_natCast, List.length_cons, List.length_nil] at *; omega) | (simp only [Int.toNat_natCast]; rw [List.take_of_length_le (by simp; done), List.map_drop]; done) | (simp; omega) | (simp; done))) ?_
      refine o1 (asn rfl) ?_
      refine onil ?_
      refine xthn ?_
      refine cret ?_
      refine xthr ?_
      refine xwk (wnorm (.c rfl (.c rfl (.c (o := .arr _ _ _ _) rfl (.n)))) rfl) ?_
      refine retg (bs := [.own 2]) (ob' := [.hed, .hed, .arr true 94 KRLSzSz (a.take i ++ x :: a.drop i)]) [0, 1, 2] rfl (.t rfl (.n)) (by decide) (hk hH rfl) (.c rfl rfl (.c rfl rfl (.c rfl (arq ?_) (.n)))) (lc rfl rfl) rfl
      all_goals first | rfl | (have e : i = a.length := (by omega); rw [e, List.take_length, List.drop_length])
    · repeat (first | simp only [decide_eq_true_eq] at c2 | simp only [decide_eq_false_iff_not] at c2 | simp only [beq_iff_eq] at c2 | simp only [bne_iff_ne] at c2 | simp only [Bool.not_eq_true'] at c2 | simp only [Bool.not_eq_false'] at c2 | simp only [beq_eq_false_iff_ne] at c2 | simp only [bne_eq_false_iff_eq] at c2 | simp only [Bool.not_not] at c2 | simp only [ne_eq] at c2 | simp only [Int.not_lt] at c2 | simp only [Int.not_le] at c2 | simp only [gt_iff_lt] at c2 | simp only [ge_iff_le] at c2 | simp only [Bool.not_eq_true] at c2 | simp only [Bool.not_eq_false] at c2 | simp only [Decidable.not_not] at c2)
      refine cskip ?_
      refine xthn ?_
      refine cseq ?_
      refine cseq ?_
      refine copen (k := 0) rfl (fun q1 hd1 ho1 => ?_)
      refine copen (k := 1) rfl (fun q2 hd2 ho2 => ?_)
      have h1l : (An.r q1).length = a.length := by rw [← hd1, An.r, An.d, List.length_map, List.length_map]
      have h2l : (An.r q2).length = 1 := by have := congrArg List.length hd2; rw [An.d, List.length_map] at this; rw [An.r, List.length_map, this]; rfl
      have h1q : List.length q1 = a.length := by rw [← h1l, An.r, List.length_map]
      have h2q : List.length q2 = 1 := by rw [← h2l, An.r, List.length_map]
      refine cprt (k := 0) rfl (by omega) (fun cp hc1 hc2 => ?_)
      refine cwk (wnorm (.c (o := .prt _ _ _ _) rfl (.c (o := .arr _ _ _ _) rfl (.c (o := .pile _) rfl (.c (o := .pile _) rfl (.n))))) rfl) ?_
      refine creg ?_
      refine o1 (mv rfl) ?_
      refine o1 (mv rfl) ?_
      refine o1 (iadd rfl rfl (by first | exact ins_hd (by omega) (by first | (simp; done) | (simp; omega)) | omega | (simp only [List.length_append, List.length_map, List.length_take, List.length_drop, List.length_replicate, pext_len, Int.toNat_natCast, List.length_cons, List.length_nil] at *; omega) | (simp only [Int.toNat_natCast]; rw [List.take_of_length_le (by simp; done), List.map_drop]; done) | (simp; omega) | (simp; done)) (by first | exact ins_hd (by omega) (by first | (simp; done) | (simp; omega)) | omega | (simp only [List.length_append, List.length_map, List.length_take, List.length_drop, List.length_replicate, pext_len, Int.toNat_natCast, List.length_cons, List.length_nil] at *; omega) | (simp only [Int.toNat_natCast]; rw [List.take_of_length_le (by simp; done), List.map_drop]; done) | (simp; omega) | (simp; done))) ?_
      refine o1 (mv rfl) ?_
      refine o1 (capp rfl rfl li26) ?_
      refine o1 (ibin rfl rfl rfl) ?_
      refine onil ?_
      refine xthn ?_
      refine ccond rfl (fun c3 => ?_) (fun c3 => ?_)
      · repeat (first | simp only [decide_eq_true_eq] at c3 | simp only [decide_eq_false_iff_not] at c3 | simp only [beq_iff_eq] at c3 | simp only [bne_iff_ne] at c3 | simp only [Bool.not_eq_true'] at c3 | simp only [Bool.not_eq_false'] at c3 | simp only [beq_eq_false_iff_ne] at c3 | simp only [bne_eq_false_iff_eq] at c3 | simp only [Bool.not_not] at c3 | simp only [ne_eq] at c3 | simp only [Int.not_lt] at c3 | simp only [Int.not_le] at c3 | simp only [gt_iff_lt] at c3 | simp only [ge_iff_le] at c3 | simp only [Bool.not_eq_true] at c3 | simp only [Bool.not_eq_false] at c3 | simp only [Decidable.not_not] at c3)
        refine cseq ?_
        refine creg ?_
        refine o1 (mv rfl) ?_
        refine o1 (mv rfl) ?_
        refine o1 (psubh rfl rfl rfl li26 rfl (by first | exact ins_hd (by omega) (by first | (simp; done) | (simp; omega)) | omega | (simp only [List.length_append, List.length_map, List.length_take, List.length_drop, List.length_replicate, pext_len, Int.toNat_natCast, List.length_cons, List.length_nil] at *; omega) | (simp only [Int.toNat_natCast]; rw [List.take_of_length_le (by simp; done), List.map_drop]; done) | (simp; omega) | (simp; done)) (by first | exact ins_hd (by omega) (by first | (simp; done) | (simp; omega)) | omega | (simp only [List.length_append, List.length_map, List.length_take, List.length_drop, List.length_replicate, pext_len, Int.toNat_natCast, List.length_cons, List.length_nil] at *; omega) | (simp only [Int.toNat_natCast]; rw [List.take_of_length_le (by simp; done), List.map_drop]; done) | (simp; omega) | (simp; done))) ?_
        refine o1 (mv rfl) ?_
        refine o1 (mv rfl) ?_
        refine o1 (iadd rfl rfl (by first | exact ins_hd (by omega) (by first | (simp; done) | (simp; omega)) | omega | (simp only [List.length_append, List.length_map, List.length_take, List.length_drop, List.length_replicate, pext_len, Int.toNat_natCast, List.length_cons, List.length_nil] at *; omega) | (simp only [Int.toNat_natCast]; rw [List.take_of_length_le (by simp; done), List.map_drop]; done) | (simp; omega) | (simp; done)) (by first | exact ins_hd (by omega) (by first | (simp; done) | (simp; omega)) | omega | (simp only [List.length_append, List.length_map, List.length_take, List.length_drop, List.length_replicate, pext_len, Int.toNat_natCast, List.length_cons, List.length_nil] at *; omega) | (simp only [Int.toNat_natCast]; rw [List.take_of_length_le (by simp; done), List.map_drop]; done) | (simp; omega) | (simp; done))) ?_
        refine o1 (mv rfl) ?_
        refine o1 (isub rfl rfl (by first | exact ins_hd (by omega) (by first | (simp; done) | (simp; omega)) | omega | (simp only [List.length_append, List.length_map, List.length_take, List.length_drop, List.length_replicate, pext_len, Int.toNat_natCast, List.length_cons, List.length_nil] at *; omega) | (simp only [Int.toNat_natCast]; rw [List.take_of_length_le (by simp; done), List.map_drop]; done) | (simp; omega) | (simp; done)) (by first | exact ins_hd (by omega) (by first | (simp; done) | (simp; omega)) | omega | (simp only [List.length_append, List.length_map, List.length_take, List.length_drop, List.length_replicate, pext_len, Int.toNat_natCast, List.length_cons, List.length_nil] at *; omega) | (simp only [Int.toNat_natCast]; rw [List.take_of_length_le (by simp; done), List.map_drop]; done) | (simp; omega) | (simp; done))) ?_
        refine e1 (av := .own 4) (sappz (ys := (An.r q1).take i) rfl rfl rfl (by first | exact ins_hd (by omega) (by first | (simp; done) | (simp; omega)) | omega | (simp only [List.length_append, List.length_map, List.length_take, List.length_drop, List.length_replicate, pext_len, Int.toNat_natCast, List.length_cons, List.length_nil] at *; omega) | (simp only [Int.toNat_natCast]; rw [List.take_of_length_le (by simp; done), List.map_drop]; done) | (simp; omega) | (simp; done)) (mi26).raw ui3 (L rfl) (by first | exact ins_hd (by omega) (by first | (simp; done) | (simp; omega)) | omega | (simp only [List.length_append, List.length_map, List.length_take, List.length_drop, List.length_replicate, pext_len, Int.toNat_natCast, List.length_cons, List.length_nil] at *; omega) | (simp only [Int.toNat_natCast]; rw [List.take_of_length_le (by simp; done), List.map_drop]; done) | (simp; omega) | (simp; done)) (by first | exact ins_hd (by omega) (by first | (simp; done) | (simp; omega)) | omega | (simp only [List.length_append, List.length_map, List.length_take, List.length_drop, List.length_replicate, pext_len, Int.toNat_natCast, List.length_cons, List.length_nil] at *; omega) | (simp only [Int.toNat_natCast]; rw [List.take_of_length_le (by simp; done), List.map_drop]; done) | (simp; omega) | (simp; done)) (by first | exact ins_hd (by omega) (by first | (simp; done) | (simp; omega)) | omega | (simp only [List.length_append, List.length_map, List.length_take, List.length_drop, List.length_replicate, pext_len, Int.toNat_natCast, List.length_cons, List.length_nil] at *; omega) | (simp only [Int.toNat_natCast]; rw [List.take_of_length_le (by simp; done), List.map_drop]; done) | (simp; omega) | (simp; done)) (by first | exact ins_hd (by omega) (by first | (simp; done) | (simp; omega)) | omega | (simp only [List.length_append, List.length_map, List.length_take, List.length_drop, List.length_replicate, pext_len, Int.toNat_natCast, List.length_cons, List.length_nil] at *; omega) | (simp only [Int.toNat_natCast]; rw [List.take_of_length_le (by simp; done), List.map_drop]; done) | (simp; omega) | (simp; done)) (by first | exact ins_hd (by omega) (by first | (simp; done) | (simp; omega)) | omega | (simp only [List.length_append, List.length_map, List.length_take, List.length_drop, List.length_replicate, pext_len, Int.toNat_natCast, List.length_cons, List.length_nil] at *; omega) | (simp only [Int.toNat_natCast]; rw [List.take_of_length_le (by simp; done), List.map_drop]; done) | (simp; omega) | (simp; done))) ?_
        refine o1 (asn rfl) ?_
        refine onil ?_
        refine xthn ?_
        refine cseq ?_
        refine cprt (k := 4) rfl (by first | omega | (simp only [List.length_append, List.length_map, List.length_take, List.length_drop, List.length_replicate, pext_len, Int.toNat_natCast, List.length_cons, List.length_nil] at *; omega) | (simp only [Int.toNat_natCast]; rw [List.take_of_length_le (by simp; done), List.map_drop]; done) | (simp; omega) | (simp; done)) (fun cp hc1 hc2 => ?_)
        refine creg ?_
        refine o1 (mv rfl) ?_
        refine o1 (mv rfl) ?_
        refine o1 (psubl rfl rfl rfl li26 rfl (by first | exact ins_hd (by omega) (by first | (simp; done) | (simp; omega)) | omega | (simp only [List.length_append, List.length_map, List.length_take, List.length_drop, List.length_replicate, pext_len, Int.toNat_natCast, List.length_cons, List.length_nil] at *; omega) | (simp only [Int.toNat_natCast]; rw [List.take_of_length_le (by simp; done), List.map_drop]; done) | (simp; omega) | (simp; done)) (by first | exact ins_hd (by omega) (by first | (simp; done) | (simp; omega)) | omega | (simp only [List.length_append, List.length_map, List.length_take, List.length_drop, List.length_replicate, pext_len, Int.toNat_natCast, List.length_cons, List.length_nil] at *; omega) | (simp only [Int.toNat_natCast]; rw [List.take_of_length_le (by simp; done), List.map_drop]; done) | (simp; omega) | (simp; done))) ?_
        refine o1 (mv rfl) ?_
        refine e1 (scopy rfl rfl rfl (.w (k := 99) (.o (j := 1) rfl rfl)) li26 rfl (by first | exact ins_hd (by omega) (by first | (simp; done) | (simp; omega)) | omega | (simp only [List.length_append, List.length_map, List.length_take, List.length_drop, List.length_replicate, pext_len, Int.toNat_natCast, List.length_cons, List.length_nil] at *; omega) | (simp only [Int.toNat_natCast]; rw [List.take_of_length_le (by simp; done), List.map_drop]; done) | (simp; omega) | (simp; done)) (by first | exact ins_hd (by omega) (by first | (simp; done) | (simp; omega)) | omega | (simp only [List.length_append, List.length_map, List.length_take, List.length_drop, List.length_replicate, pext_len, Int.toNat_natCast, List.length_cons, List.length_nil] at *; omega) | (simp only [Int.toNat_natCast]; rw [List.take_of_length_le (by simp; done), List.map_drop]; done) | (simp; omega) | (simp; done))) ?_
        refine onil ?_
        refine xthn ?_
        refine cseq ?_
        refine cwk (wpe (k := 4) (((An.r q1).take i).map some ++ (An.r q2).map some ++ (List.replicate ((An.r q1).length - i) KRLSzSz.raw.z).map some) rfl (by exact ins_1 (by omega) (by omega) (by omega) (by simp; omega))) ?_
        refine cregh [4] mixed ?_
        refine v1 (hi := rfl) 0 (fun _ => mv rfl) ?_
        refine v1 (hi := rfl) 1 (fun _ => mv rfl) ?_
        refine v1 (hi := rfl) 2 (fun _ => mv rfl) ?_
        refine v1 (hi := rfl) 3 (fun _ => iadd rfl rfl (by first | exact ins_hd (by omega) (by first | (simp; done) | (simp; omega)) | omega | (simp only [List.length_append, List.length_map, List.length_take, List.length_drop, List.length_replicate, pext_len, Int.toNat_natCast, List.length_cons, List.length_nil] at *; omega) | (simp only [Int.toNat_natCast]; rw [List.take_of_length_le (by simp; done), List.map_drop]; done) | (simp; omega) | (simp; done)) (by first | exact ins_hd (by omega) (by first | (simp; done) | (simp; omega)) | omega | (simp only [List.length_append, List.length_map, List.length_take, List.length_drop, List.length_replicate, pext_len, Int.toNat_natCast, List.length_cons, List.length_nil] at *; omega) | (simp only [Int.toNat_natCast]; rw [List.take_of_length_le (by simp; done), List.map_drop]; done) | (simp; omega) | (simp; done))) ?_
        refine v1 (hi := rfl) 5 (fun _ => mv rfl) ?_
        refine v1 (hi := rfl) 6 (fun _ => mv rfl) ?_
        refine v1 (hi := rfl) 7 (fun _ => psubl rfl rfl rfl li26 rfl (by first | exact ins_hd (by omega) (by first | (simp; done) | (simp; omega)) | omega | (simp only [List.length_append, List.length_map, List.length_take, List.length_drop, List.length_replicate, pext_len, Int.toNat_natCast, List.length_cons, List.length_nil] at *; omega) | (simp only [Int.toNat_natCast]; rw [List.take_of_length_le (by simp; done), List.map_drop]; done) | (simp; omega) | (simp; done)) (by first | exact ins_hd (by omega) (by first | (simp; done) | (simp; omega)) | omega | (simp only [List.length_append, List.length_map, List.length_take, List.length_drop, List.length_replicate, pext_len, Int.toNat_natCast, List.length_cons, List.length_nil] at *; omega) | (simp only [Int.toNat_natCast]; rw [List.take_of_length_le (by simp; done), List.map_drop]; done) | (simp; omega) | (simp; done))) ?_
        refine hn1 (n := 4) ?_
        refine xv (hi := rfl) (psubl rfl rfl rfl li26 rfl (by first | exact ins_hd (by omega) (by first | (simp; done) | (simp; omega)) | omega | (simp only [List.length_append, List.length_map, List.length_take, List.length_drop, List.length_replicate, pext_len, Int.toNat_natCast, List.length_cons, List.length_nil] at *; omega) | (simp only [Int.toNat_natCast]; rw [List.take_of_length_le (by simp; done), List.map_drop]; done) | (simp; omega) | (simp; done)) (by first | exact ins_hd (by omega) (by first | (simp; done) | (simp; omega)) | omega | (simp only [List.length_append, List.length_map, List.length_take, List.length_drop, List.length_replicate, pext_len, Int.toNat_natCast, List.length_cons, List.length_nil] at *; omega) | (simp only [Int.toNat_natCast]; rw [List.take_of_length_le (by simp; done), List.map_drop]; done) | (simp; omega) | (simp; done))) ?_
        refine hn1 (n := 8) ?_
        refine x1 (hi := rfl) [4] (scopy (ys := (An.r q1).drop i) rfl rfl rfl (.p rfl (by first | exact ins_hd (by omega) (by first | (simp; done) | (simp; omega)) | omega | (simp only [List.length_append, List.length_map, List.length_take, List.length_drop, List.length_replicate, pext_len, Int.toNat_natCast, List.length_cons, List.length_nil] at *; omega) | (simp only [Int.toNat_natCast]; rw [List.take_of_length_le (by simp; done), List.map_drop]; done) | (simp; omega) | (simp; done)) (by first | exact ins_hd (by omega) (by first | (simp; done) | (simp; omega)) | omega | (simp only [List.length_append, List.length_map, List.length_take, List.length_drop, List.length_replicate, pext_len, Int.toNat_natCast, List.length_cons, List.length_nil] at *; omega) | (simp only [Int.toNat_natCast]; rw [List.take_of_length_le (by simp; done), List.map_drop]; done) | (simp; omega) | (simp; done))) li26 rfl (by first | exact ins_hd (by omega) (by first | (simp; done) | (simp; omega)) | omega | (simp only [List.length_append, List.length_map, List.length_take, List.length_drop, List.length_replicate, pext_len, Int.toNat_natCast, List.length_cons, List.length_nil] at *; omega) | (simp only [Int.toNat_natCast]; rw [List.take_of_length_le (by simp; done), List.map_drop]; done) | (simp; omega) | (simp; done)) (by first | exact ins_hd (by omega) (by first | (simp; done) | (simp; omega)) | omega | (simp only [List.length_append, List.length_map, List.length_take, List.length_drop, List.length_replicate, pext_len, Int.toNat_natCast, List.length_cons, List.length_nil] at *; omega) | (simp only [Int.toNat_natCast]; rw [List.take_of_length_le (by simp; done), List.map_drop]; done) | (simp; omega) | (simp; done))) ?_
        refine h9 ?_
        refine xthn ?_
        refine cseq ?_
        refine creg ?_
        refine o1 (mv rfl) ?_
        refine o1 (asn rfl) ?_
        refine onil ?_
        refine xthn ?_
        refine cret ?_
        refine xthr ?_
        refine xwk (parr (k := 4) (An.r (q1.take i ++ q2 ++ q1.drop i)) rfl (by rw [ins_r]; exact ins_nr (by omega) (by omega) (by omega) (by simp; omega))) ?_
        refine xwk (wclose (k := 4) [2, 3] ((q1.take i ++ q2 ++ q1.drop i)) ([]) rfl rfl (.c (j := 2) rfl (.c (j := 3) rfl (.n))) (ins_ok ho1 ho2) (by exact ins_perm q1 q2 i) (by decide)) ?_
        refine xwk (wdrop [0, 1]) ?_
        refine xwk (wnorm (.c rfl (.c rfl (.c rfl (.c rfl (.c (o := .arr _ _ _ _) rfl (.c rfl (.n))))))) rfl) ?_
        refine retg (bs := [.own 2]) (ob' := [.hed, .hed, .arr true 94 KRLSzSz (a.take i ++ x :: a.drop i)]) [0, 1, 4] rfl (.t rfl (.n)) (by decide) (hk hH rfl) (.c rfl rfl (.c rfl rfl (.c rfl (arq ?_) (.n)))) (lc rfl rfl) rfl
        all_goals first | rfl | (rw [ins_d, hd1, hd2]; simp)
      · repeat (first | simp only [decide_eq_true_eq] at c3 | simp only [decide_eq_false_iff_not] at c3 | simp only [beq_iff_eq] at c3 | simp only [bne_iff_ne] at c3 | simp only [Bool.not_eq_true'] at c3 | simp only [Bool.not_eq_false'] at c3 | simp only [beq_eq_false_iff_ne] at c3 | simp only [bne_eq_false_iff_eq] at c3 | simp only [Bool.not_not] at c3 | simp only [ne_eq] at c3 | simp only [Int.not_lt] at c3 | simp only [Int.not_le] at c3 | simp only [gt_iff_lt] at c3 | simp only [ge_iff_le] at c3 | simp only [Bool.not_eq_true] at c3 | simp only [Bool.not_eq_false] at c3 | simp only [Decidable.not_not] at c3)
        refine cskip ?_
        refine xthn ?_
        refine cseq ?_
        refine creg ?_
        refine o1 (mv rfl) ?_
        refine o1 (mv rfl) ?_
        refine o1 (mv rfl) ?_
        refine o1 (iadd rfl rfl (by first | exact ins_hd (by omega) (by first | (simp; done) | (simp; omega)) | omega | (simp only [List.length_append, List.length_map, List.length_take, List.length_drop, List.length_replicate, pext_len, Int.toNat_natCast, List.length_cons, List.length_nil] at *; omega) | (simp only [Int.toNat_natCast]; rw [List.take_of_length_le (by simp; done), List.map_drop]; done) | (simp; omega) | (simp; done)) (by first | exact ins_hd (by omega) (by first | (simp; done) | (simp; omega)) | omega | (simp only [List.length_append, List.length_map, List.length_take, List.length_drop, List.length_replicate, pext_len, Int.toNat_natCast, List.length_cons, List.length_nil] at *; omega) | (simp only [Int.toNat_natCast]; rw [List.take_of_length_le (by simp; done), List.map_drop]; done) | (simp; omega) | (simp; done))) ?_
        refine e1 (av := .own 4) (spcut rfl rfl rfl li26 rfl (by first | exact ins_hd (by omega) (by first | (simp; done) | (simp; omega)) | omega | (simp only [List.length_append, List.length_map, List.length_take, List.length_drop, List.length_replicate, pext_len, Int.toNat_natCast, List.length_cons, List.length_nil] at *; omega) | (simp only [Int.toNat_natCast]; rw [List.take_of_length_le (by simp; done), List.map_drop]; done) | (simp; omega) | (simp; done)) (by first | exact ins_hd (by omega) (by first | (simp; done) | (simp; omega)) | omega | (simp only [List.length_append, List.length_map, List.length_take, List.length_drop, List.length_replicate, pext_len, Int.toNat_natCast, List.length_cons, List.length_nil] at *; omega) | (simp only [Int.toNat_natCast]; rw [List.take_of_length_le (by simp; done), List.map_drop]; done) | (simp; omega) | (simp; done))) ?_
        refine o1 (asn rfl) ?_
        refine onil ?_
        refine xthn ?_
        refine cseq ?_
        refine cseq ?_
        refine cwk (wpe (k := 4) ((An.r q1).map some ++ [none]) rfl (by exact ins_0 (by simp; omega))) ?_
        refine creg ?_
        refine o1 (mv rfl) ?_
        refine o1 (mv rfl) ?_
        refine o1 (mv rfl) ?_
        refine o1 (mv rfl) ?_
        refine o1 (iadd rfl rfl (by first | exact ins_hd (by omega) (by first | (simp; done) | (simp; omega)) | omega | (simp only [List.length_append, List.length_map, List.length_take, List.length_drop, List.length_replicate, pext_len, Int.toNat_natCast, List.length_cons, List.length_nil] at *; omega) | (simp only [Int.toNat_natCast]; rw [List.take_of_length_le (by simp; done), List.map_drop]; done) | (simp; omega) | (simp; done)) (by first | exact ins_hd (by omega) (by first | (simp; done) | (simp; omega)) | omega | (simp only [List.length_append, List.length_map, List.length_take, List.length_drop, List.length_replicate, pext_len, Int.toNat_natCast, List.length_cons, List.length_nil] at *; omega) | (simp only [Int.toNat_natCast]; rw [List.take_of_length_le (by simp; done), List.map_drop]; done) | (simp; omega) | (simp; done))) ?_
        refine o1 (psubl rfl rfl rfl li26 rfl (by first | exact ins_hd (by omega) (by first | (simp; done) | (simp; omega)) | omega | (simp only [List.length_append, List.length_map, List.length_take, List.length_drop, List.length_replicate, pext_len, Int.toNat_natCast, List.length_cons, List.length_nil] at *; omega) | (simp only [Int.toNat_natCast]; rw [List.take_of_length_le (by simp; done), List.map_drop]; done) | (simp; omega) | (simp; done)) (by first | exact ins_hd (by omega) (by first | (simp; done) | (simp; omega)) | omega | (simp only [List.length_append, List.length_map, List.length_take, List.length_drop, List.length_replicate, pext_len, Int.toNat_natCast, List.length_cons, List.length_nil] at *; omega) | (simp only [Int.toNat_natCast]; rw [List.take_of_length_le (by simp; done), List.map_drop]; done) | (simp; omega) | (simp; done))) ?_
        refine o1 (ovl rfl rfl rfl rfl rfl ov176 li26 (L rfl) (L rfl) (by first | exact ins_hd (by omega) (by first | (simp; done) | (simp; omega)) | omega | (simp only [List.length_append, List.length_map, List.length_take, List.length_drop, List.length_replicate, pext_len, Int.toNat_natCast, List.length_cons, List.length_nil] at *; omega) | (simp only [Int.toNat_natCast]; rw [List.take_of_length_le (by simp; done), List.map_drop]; done) | (simp; omega) | (simp; done)) (by first | exact ins_hd (by omega) (by first | (simp; done) | (simp; omega)) | omega | (simp only [List.length_append, List.length_map, List.length_take, List.length_drop, List.length_replicate, pext_len, Int.toNat_natCast, List.length_cons, List.length_nil] at *; omega) | (simp only [Int.toNat_natCast]; rw [List.take_of_length_le (by simp; done), List.map_drop]; done) | (simp; omega) | (simp; done)) (by first | exact ins_hd (by omega) (by first | (simp; done) | (simp; omega)) | omega | (simp only [List.length_append, List.length_map, List.length_take, List.length_drop, List.length_replicate, pext_len, Int.toNat_natCast, List.length_cons, List.length_nil] at *; omega) | (simp only [Int.toNat_natCast]; rw [List.take_of_length_le (by simp; done), List.map_drop]; done) | (simp; omega) | (simp; done))) ?_
        refine o1 (unot rfl) ?_
        refine onil ?_
        refine xthn ?_
        refine ccond rfl (fun c4 => ?_) (fun c4 => ?_)
        · repeat (first | simp only [decide_eq_true_eq] at c4 | simp only [decide_eq_false_iff_not] at c4 | simp only [beq_iff_eq] at c4 | simp only [bne_iff_ne] at c4 | simp only [Bool.not_eq_true'] at c4 | simp only [Bool.not_eq_false'] at c4 | simp only [beq_eq_false_iff_ne] at c4 | simp only [bne_eq_false_iff_eq] at c4 | simp only [Bool.not_not] at c4 | simp only [ne_eq] at c4 | simp only [Int.not_lt] at c4 | simp only [Int.not_le] at c4 | simp only [gt_iff_lt] at c4 | simp only [ge_iff_le] at c4 | simp only [Bool.not_eq_true] at c4 | simp only [Bool.not_eq_false] at c4 | simp only [Decidable.not_not] at c4)
          refine cseq ?_
          refine cregh [4] mixed ?_
          refine v1 (hi := rfl) 0 (fun _ => mv rfl) ?_
          refine v1 (hi := rfl) 1 (fun _ => mv rfl) ?_
          refine v1 (hi := rfl) 2 (fun _ => mv rfl) ?_
          refine v1 (hi := rfl) 3 (fun _ => iadd rfl rfl (by first | exact ins_hd (by omega) (by first | (simp; done) | (simp; omega)) | omega | (simp only [List.length_append, List.length_map, List.length_take, List.length_drop, List.length_replicate, pext_len, Int.toNat_natCast, List.length_cons, List.length_nil] at *; omega) | (simp only [Int.toNat_natCast]; rw [List.take_of_length_le (by simp; done), List.map_drop]; done) | (simp; omega) | (simp; done)) (by first | exact ins_hd (by omega) (by first | (simp; done) | (simp; omega)) | omega | (simp only [List.length_append, List.length_map, List.length_take, List.length_drop, List.length_replicate, pext_len, Int.toNat_natCast, List.length_cons, List.length_nil] at *; omega) | (simp only [Int.toNat_natCast]; rw [List.take_of_length_le (by simp; done), List.map_drop]; done) | (simp; omega) | (simp; done))) ?_
          refine v1 (hi := rfl) 5 (fun _ => mv rfl) ?_
          refine v1 (hi := rfl) 6 (fun _ => mv rfl) ?_
          refine hv2 (hi := rfl) (hj := rfl) 4 7 (psubl rfl rfl rfl li26 rfl (by first | exact ins_hd (by omega) (by first | (simp; done) | (simp; omega)) | omega | (simp only [List.length_append, List.length_map, List.length_take, List.length_drop, List.length_replicate, pext_len, Int.toNat_natCast, List.length_cons, List.length_nil] at *; omega) | (simp only [Int.toNat_natCast]; rw [List.take_of_length_le (by simp; done), List.map_drop]; done) | (simp; omega) | (simp; done)) (by first | exact ins_hd (by omega) (by first | (simp; done) | (simp; omega)) | omega | (simp only [List.length_append, List.length_map, List.length_take, List.length_drop, List.length_replicate, pext_len, Int.toNat_natCast, List.length_cons, List.length_nil] at *; omega) | (simp only [Int.toNat_natCast]; rw [List.take_of_length_le (by simp; done), List.map_drop]; done) | (simp; omega) | (simp; done))) (psubl rfl rfl rfl li26 rfl (by first | exact ins_hd (by omega) (by first | (simp; done) | (simp; omega)) | omega | (simp only [List.length_append, List.length_map, List.length_take, List.length_drop, List.length_replicate, pext_len, Int.toNat_natCast, List.length_cons, List.length_nil] at *; omega) | (simp only [Int.toNat_natCast]; rw [List.take_of_length_le (by simp; done), List.map_drop]; done) | (simp; omega) | (simp; done)) (by first | exact ins_hd (by omega) (by first | (simp; done) | (simp; omega)) | omega | (simp only [List.length_append, List.length_map, List.length_take, List.length_drop, List.length_replicate, pext_len, Int.toNat_natCast, List.length_cons, List.length_nil] at *; omega) | (simp only [Int.toNat_natCast]; rw [List.take_of_length_le (by simp; done), List.map_drop]; done) | (simp; omega) | (simp; done))) (psubl rfl rfl rfl li26 rfl (by first | exact ins_hd (by omega) (by first | (simp; done) | (simp; omega)) | omega | (simp only [List.length_append, List.length_map, List.length_take, List.length_drop, List.length_replicate, pext_len, Int.toNat_natCast, List.length_cons, List.length_nil] at *; omega) | (simp only [Int.toNat_natCast]; rw [List.take_of_length_le (by simp; done), List.map_drop]; done) | (simp; omega) | (simp; done)) (by first | exact ins_hd (by omega) (by first | (simp; done) | (simp; omega)) | omega | (simp only [List.length_append, List.length_map, List.length_take, List.length_drop, List.length_replicate, pext_len, Int.toNat_natCast, List.length_cons, List.length_nil] at *; omega) | (simp only [Int.toNat_natCast]; rw [List.take_of_length_le (by simp; done), List.map_drop]; done) | (simp; omega) | (simp; done))) (psubl rfl rfl rfl li26 rfl (by first | exact ins_hd (by omega) (by first | (simp; done) | (simp; omega)) | omega | (simp only [List.length_append, List.length_map, List.length_take, List.length_drop, List.length_replicate, pext_len, Int.toNat_natCast, List.length_cons, List.length_nil] at *; omega) | (simp only [Int.toNat_natCast]; rw [List.take_of_length_le (by simp; done), List.map_drop]; done) | (simp; omega) | (simp; done)) (by first | exact ins_hd (by omega) (by first | (simp; done) | (simp; omega)) | omega | (simp only [List.length_append, List.length_map, List.length_take, List.length_drop, List.length_replicate, pext_len, Int.toNat_natCast, List.length_cons, List.length_nil] at *; omega) | (simp only [Int.toNat_natCast]; rw [List.take_of_length_le (by simp; done), List.map_drop]; done) | (simp; omega) | (simp; done))) ?_
          refine hn1 (n := 8) ?_
          refine x1 (hi := rfl) [4] (scopyp ((An.r q1).drop i) rfl rfl rfl rfl (by first | exact ins_hd (by omega) (by first | (simp; done) | (simp; omega)) | omega | (simp only [List.length_append, List.length_map, List.length_take, List.length_drop, List.length_replicate, pext_len, Int.toNat_natCast, List.length_cons, List.length_nil] at *; omega) | (simp only [Int.toNat_natCast]; rw [List.take_of_length_le (by simp; done), List.map_drop]; done) | (simp; omega) | (simp; done)) li26 rfl (by first | exact ins_hd (by omega) (by first | (simp; done) | (simp; omega)) | omega | (simp only [List.length_append, List.length_map, List.length_take, List.length_drop, List.length_replicate, pext_len, Int.toNat_natCast, List.length_cons, List.length_nil] at *; omega) | (simp only [Int.toNat_natCast]; rw [List.take_of_length_le (by simp; done), List.map_drop]; done) | (simp; omega) | (simp; done)) (by first | exact ins_hd (by omega) (by first | (simp; done) | (simp; omega)) | omega | (simp only [List.length_append, List.length_map, List.length_take, List.length_drop, List.length_replicate, pext_len, Int.toNat_natCast, List.length_cons, List.length_nil] at *; omega) | (simp only [Int.toNat_natCast]; rw [List.take_of_length_le (by simp; done), List.map_drop]; done) | (simp; omega) | (simp; done)) (by first | exact ins_hd (by omega) (by first | (simp; done) | (simp; omega)) | omega | (simp only [List.length_append, List.length_map, List.length_take, List.length_drop, List.length_replicate, pext_len, Int.toNat_natCast, List.length_cons, List.length_nil] at *; omega) | (simp only [Int.toNat_natCast]; rw [List.take_of_length_le (by simp; done), List.map_drop]; done) | (simp; omega) | (simp; done)) (by first | exact ins_hd (by omega) (by first | (simp; done) | (simp; omega)) | omega | (simp only [List.length_append, List.length_map, List.length_take, List.length_drop, List.length_replicate, pext_len, Int.toNat_natCast, List.length_cons, List.length_nil] at *; omega) | (simp only [Int.toNat_natCast]; rw [List.take_of_length_le (by simp; done), List.map_drop]; done) | (simp; omega) | (simp; done)) (by first | exact ins_hd (by omega) (by first | (simp; done) | (simp; omega)) | omega | (simp only [List.length_append, List.length_map, List.length_take, List.length_drop, List.length_replicate, pext_len, Int.toNat_natCast, List.length_cons, List.length_nil] at *; omega) | (simp only [Int.toNat_natCast]; rw [List.take_of_length_le (by simp; done), List.map_drop]; done) | (simp; omega) | (simp; done))) ?_
          refine h9 ?_
          refine xthn ?_
          refine cseq ?_
          refine cwk (wpe (k := 4) (((An.r q1).take (i + 1)).map some ++ ((An.r q1).drop i).map some) rfl (by exact ins_2 (by omega) (by omega))) ?_
          refine creg ?_
          refine o1 (mv rfl) ?_
          refine o1 (mv rfl) ?_
          refine o1 (psubl rfl rfl rfl li26 rfl (by first | exact ins_hd (by omega) (by first | (simp; done) | (simp; omega)) | omega | (simp only [List.length_append, List.length_map, List.length_take, List.length_drop, List.length_replicate, pext_len, Int.toNat_natCast, List.length_cons, List.length_nil] at *; omega) | (simp only [Int.toNat_natCast]; rw [List.take_of_length_le (by simp; done), List.map_drop]; done) | (simp; omega) | (simp; done)) (by first | exact ins_hd (by omega) (by first | (simp; done) | (simp; omega)) | omega | (simp only [List.length_append, List.length_map, List.length_take, List.length_drop, List.length_replicate, pext_len, Int.toNat_natCast, List.length_cons, List.length_nil] at *; omega) | (simp only [Int.toNat_natCast]; rw [List.take_of_length_le (by simp; done), List.map_drop]; done) | (simp; omega) | (simp; done))) ?_
          refine o1 (mv rfl) ?_
          refine e1 (scopy rfl rfl rfl (.w (k := 99) (.o (j := 1) rfl rfl)) li26 rfl (by first | exact ins_hd (by omega) (by first | (simp; done) | (simp; omega)) | omega | (simp only [List.length_append, List.length_map, List.length_take, List.length_drop, List.length_replicate, pext_len, Int.toNat_natCast, List.length_cons, List.length_nil] at *; omega) | (simp only [Int.toNat_natCast]; rw [List.take_of_length_le (by simp; done), List.map_drop]; done) | (simp; omega) | (simp; done)) (by first | exact ins_hd (by omega) (by first | (simp; done) | (simp; omega)) | omega | (simp only [List.length_append, List.length_map, List.length_take, List.length_drop, List.length_replicate, pext_len, Int.toNat_natCast, List.length_cons, List.length_nil] at *; omega) | (simp only [Int.toNat_natCast]; rw [List.take_of_length_le (by simp; done), List.map_drop]; done) | (simp; omega) | (simp; done))) ?_
          refine onil ?_
          refine xthn ?_
          refine cseq ?_
          refine creg ?_
          refine o1 (mv rfl) ?_
          refine o1 (asn rfl) ?_
          refine onil ?_
          refine xthn ?_
          refine cret ?_
          refine xthr ?_
          refine xwk (parr (k := 4) (An.r (q1.take i ++ q2 ++ q1.drop i)) rfl (by rw [ins_r]; exact ins_rm (by omega) (by omega) (by simp; omega))) ?_
          refine xwk (wclose (k := 4) [2, 3] ((q1.take i ++ q2 ++ q1.drop i)) ([]) rfl rfl (.c (j := 2) rfl (.c (j := 3) rfl (.n))) (ins_ok ho1 ho2) (by exact ins_perm q1 q2 i) (by decide)) ?_
          refine xwk (wdrop [0, 1]) ?_
          refine xwk (wnorm (.c rfl (.c rfl (.c rfl (.c rfl (.c (o := .arr _ _ _ _) rfl (.c rfl (.n))))))) rfl) ?_
          refine retg (bs := [.own 2]) (ob' := [.hed, .hed, .arr true 94 KRLSzSz (a.take i ++ x :: a.drop i)]) [0, 1, 4] rfl (.t rfl (.n)) (by decide) (hk hH rfl) (.c rfl rfl (.c rfl rfl (.c rfl (arq ?_) (.n)))) (lc rfl rfl) rfl
          all_goals first | rfl | (rw [ins_d, hd1, hd2]; simp)
        · repeat (first | simp only [decide_eq_true_eq] at c4 | simp only [decide_eq_false_iff_not] at c4 | simp only [beq_iff_eq] at c4 | simp only [bne_iff_ne] at c4 | simp only [Bool.not_eq_true'] at c4 | simp only [Bool.not_eq_false'] at c4 | simp only [beq_eq_false_iff_ne] at c4 | simp only [bne_eq_false_iff_eq] at c4 | simp only [Bool.not_not] at c4 | simp only [ne_eq] at c4 | simp only [Int.not_lt] at c4 | simp only [Int.not_le] at c4 | simp only [gt_iff_lt] at c4 | simp only [ge_iff_le] at c4 | simp only [Bool.not_eq_true] at c4 | simp only [Bool.not_eq_false] at c4 | simp only [Decidable.not_not] at c4)
          simp at c4

end Go.Proofs.YtifpekpmnlcmoaaE
