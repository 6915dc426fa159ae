import Derived.Test.YtifpekpmnlcmoaaProg
import Derived.Test.YtifpekpmnlcmoaaE19
import Derived.Test.YtifpekpmnlcmoaaB3
import Derived.Test.YtifpekpmnlcmoaaA8
set_option linter.unusedVariables false
set_option maxRecDepth 100000
namespace Go.Proofs.YtifpekpmnlcmoaaE
open Go Go.RowKit Go.Shelf Go.Proofs
abbrev KB : Tys := .cons (.i .u8) .nil
theorem zi98 : zinfo Go.Proofs.Try.prog 98 = some [.np, .nl] := by kernel_rfl

theorem closes_len (lo : Nat) : ∀ h, (closes h lo).length ≤ h * (2 * h + 2)
  | 0 => by simp [closes]
  | h + 1 => by
    have := closes_len lo h
    rw [closes]
    split
    · simp only [List.length_append, blanks_len, List.length_cons, List.length_nil]
      have e : (h + 1) * (2 * (h + 1) + 2) = h * (2 * h + 2) + 2 * h + 2 * h + 4 := by simp only [Nat.add_mul, Nat.mul_add]; omega
      omega
    · simp
theorem opens_len {p : StrS} (hp : path p = true) : ∀ (m k : Nat), k + m ≤ 5 → (opens p k m).length ≤ 30 * m
  | 0, k, _ => by simp [opens]
  | m + 1, k, h => by
    have := opens_len hp m (k + 1) (by omega)
    have h2 := path_w hp (k : Int)
    simp only [opens, List.length_append, blanks_len, List.length_cons, List.length_nil]
    omega
theorem txt_len : ∀ (l : Leafs) (op : StrS), (∀ x ∈ l, path x.1 = true ∧ word x.2.1 = true) → op.length ≤ 5 → (txt op l).length ≤ 60 + 400 * l.length
  | [], op, _, h => by
    have := closes_len 0 op.length
    have h2 : op.length * (2 * op.length + 2) ≤ 5 * (2 * 5 + 2) := Nat.mul_le_mul h (by omega)
    simp only [txt, List.length_nil]; omega
  | x :: r, op, hx, h => by
    have hp := hx x List.mem_cons_self
    have pl := path_len hp.1
    have wl := word_len hp.2
    have k1 := com_le1 op (x.1.take (x.1.length - 1))
    have k2 := com_le2 op (x.1.take (x.1.length - 1))
    rw [List.length_take] at k2
    have ih := txt_len r (x.1.take (x.1.length - 1)) (fun y hy => hx y (List.mem_cons_of_mem _ hy)) (by rw [List.length_take]; omega)
    have h1 := closes_len (com op (x.1.take (x.1.length - 1))) op.length
    have h2 : op.length * (2 * op.length + 2) ≤ 5 * (2 * 5 + 2) := Nat.mul_le_mul h (by omega)
    have h3 := opens_len hp.1 (x.1.length - 1 - com op (x.1.take (x.1.length - 1))) (com op (x.1.take (x.1.length - 1))) (by omega)
    have h4 := path_w hp.1 ((x.1.length : Int) - 1)
    simp only [txt, leafT, List.length_append, blanks_len, List.length_cons, List.length_nil]
    omega
theorem chain_of {l : Leafs} : ∀ (n : Nat), (∀ i, 0 < i → i < l.length → less (ix KRLSzSz.z l ((i : Int) - 1)).1 (ix KRLSzSz.z l (i : Int)).1 = true ∧ beg (ix KRLSzSz.z l ((i : Int) - 1)).1 (ix KRLSzSz.z l (i : Int)).1 = false) → chain l := by
  intro _
  induction l with
  | nil => intro _; trivial
  | cons x r ih =>
    intro h
    cases r with
    | nil => trivial
    | cons y r =>
      refine ⟨h 1 (by omega) (by simp), ih (fun i h1 h2 => ?_)⟩
      have := h (i + 1) (by omega) (by simp at h2 ⊢; omega)
      obtain ⟨m, rfl⟩ : ∃ m, i = m + 1 := ⟨i - 1, by omega⟩
      have e1 : (((m + 1 + 1 : Nat) : Int) - 1) = ((m + 1 : Nat) : Int) := by omega
      have e2 : (((m + 1 : Nat) : Int) - 1) = (m : Int) := by omega
      rw [e1] at this
      rw [e2]
      exact this
theorem good_Gd {l : Leafs} (h : good l = true) : Gd [] l := by
  refine ⟨fun x hx => ?_, chain_of 0 (fun i h1 h2 => ?_)⟩
  · obtain ⟨i, hi⟩ := List.getElem?_of_mem hx
    have hil := (List.getElem?_eq_some_iff.1 hi).1
    have := good_at h hil
    have e : ix KRLSzSz.z l (i : Int) = x := by simp [ix, List.getD_eq_getElem?_getD, hi]
    rw [e] at this
    refine ⟨?_, this⟩
    have pl := path_len this.1
    cases hx : x.1 with
    | nil => rw [hx] at pl; simp at pl
    | cons w t => exact ⟨w, t, rfl⟩
  · simp only [good, Bool.and_eq_true, List.all_eq_true] at h
    have := h.1 i (List.mem_range.2 h2)
    simp only [stOK, Bool.and_eq_true, Bool.or_eq_true, decide_eq_true_eq, Bool.not_eq_true'] at this
    rcases this.2 with h | h
    · omega
    · exact h
theorem good_txt {l : Leafs} (h : good l = true) : (tx 0 [] l).length ≤ 20000 := by
  have := txt_len l [] (fun x hx => ((good_Gd h).1 x hx).2) (by simp)
  have h2 := good_len h
  rw [← tx_txt]
  omega

theorem c_impl_ConfigText : Fe Go.Proofs.Try.prog 12 (ι := Leafs) (fun l => [.c (.l KRLSzSz) l]) (fun _ => []) (fun l => True) (fun l => (.tup [.c .s (cfgT l).1, .c .b (cfgT l).2], [])) := by
  refine fnE (n := 13) Go.Proofs.Try.func12 rfl rfl (ent Go.Proofs.Try.func12 (by kernel_rfl) rfl) ?_
  rintro l hx
  refine ⟨Le rfl, fun w0 S0 H Z hH => ?_⟩
  try simp only [] at hx
  refine cseq ?_
  refine creg ?_
  refine o (.inl rfl) (L rfl) (asn rfl) rfl ?_
  refine o (.inl rfl) (L rfl) (asn rfl) rfl ?_
  refine onil ?_
  refine xthn ?_
  refine cseq ?_
  refine cseq ?_
  refine creg ?_
  refine o (.inl rfl) (L rfl) (mv rfl) rfl ?_
  refine ocall c_impl_GoodConfig _ [] [] (by repeat (first | exact .n | refine .c rfl (.c (.e rfl)) ?_ | refine .c rfl (.c (.o (by decide) rfl)) ?_ | refine .c rfl (.c .n) ?_  | refine .c rfl (.g (by repeat (first | exact .n | refine .c (.e rfl) ?_ | refine .c (.o (by decide) rfl) ?_ | refine .c .n ?_))) ?_)) (by first | trivial | (refine ?_; omega) | (simp only []; omega) | (constructor <;> omega) | assumption) (.inl rfl) (by decide) (by decide) (by repeat (first | exact .n | refine .c rfl rfl ?_)) (Le rfl) (.inl rfl) (L rfl) ?_
  refine o (.inl rfl) (L rfl) (unot rfl) rfl ?_
  refine onil ?_
  refine xthn ?_
  refine ccond rfl (fun c1 => ?_) (fun c1 => ?_)
  · repeat (first | simp only [decide_eq_true_eq] at c1 | simp only [decide_eq_false_iff_not] at c1 | simp only [beq_iff_eq] at c1 | simp only [bne_iff_ne] at c1 | simp only [Bool.not_eq_true'] at c1 | simp only [Bool.not_eq_false'] at c1 | simp only [beq_eq_false_iff_ne] at c1 | simp only [bne_eq_false_iff_eq] at c1 | simp only [Bool.not_not] at c1 | simp only [ne_eq] at c1 | simp only [Int.not_lt] at c1 | simp only [Int.not_le] at c1 | simp only [gt_iff_lt] at c1 | simp only [ge_iff_le] at c1 | simp only [Bool.not_eq_true] at c1 | simp only [Bool.not_eq_false] at c1 | simp only [Decidable.not_not] at c1)
    refine cseq ?_
    refine creg ?_
    refine o (.inl rfl) (L rfl) (asn rfl) rfl ?_
    refine o (.inl rfl) (L rfl) (asn rfl) rfl ?_
    refine onil ?_
    refine xthn ?_
    refine cret ?_
    refine xthr ?_
    refine retd rfl (.t rfl (.t rfl (.n))) (h0 hH) rfl ?_
    exact re2 (by simp [cfgT, c1]) (by simp [cfgT, c1])
  · repeat (first | simp only [decide_eq_true_eq] at c1 | simp only [decide_eq_false_iff_not] at c1 | simp only [beq_iff_eq] at c1 | simp only [bne_iff_ne] at c1 | simp only [Bool.not_eq_true'] at c1 | simp only [Bool.not_eq_false'] at c1 | simp only [beq_eq_false_iff_ne] at c1 | simp only [bne_eq_false_iff_eq] at c1 | simp only [Bool.not_not] at c1 | simp only [ne_eq] at c1 | simp only [Int.not_lt] at c1 | simp only [Int.not_le] at c1 | simp only [gt_iff_lt] at c1 | simp only [ge_iff_le] at c1 | simp only [Bool.not_eq_true] at c1 | simp only [Bool.not_eq_false] at c1 | simp only [Decidable.not_not] at c1)
    have gt := good_txt c1
    refine cskip ?_
    refine xthn ?_
    refine cseq ?_
    refine creg ?_
    refine oalloc (.inl rfl) (L rfl) zi98 ?_
    refine onil ?_
    refine xthn ?_
    refine cseq ?_
    refine creg ?_
    refine owk (bldI (k := 0) 5 rfl) ?_
    refine o (.inl rfl) (L rfl) (mv rfl) rfl ?_
    refine ocall c_impl_write (l, [], []) [0] [] (by repeat (first | exact .n | refine .c rfl (.c (.e rfl)) ?_ | refine .c rfl (.c (.o (by decide) rfl)) ?_ | refine .c rfl (.c .n) ?_  | refine .c rfl (.g (by repeat (first | exact .n | refine .c (.e rfl) ?_ | refine .c (.o (by decide) rfl) ?_ | refine .c .n ?_))) ?_)) (by exact ⟨by simp, good_Gd c1, by have := good_len c1; omega, by show 0 + (tx 0 [] l).length ≤ 1048576; omega⟩) (.inl rfl) (by decide) (by decide) (by repeat (first | exact .n | refine .c rfl rfl ?_)) (Le rfl) (.inl rfl) (L rfl) ?_
    refine onil ?_
    refine xthn ?_
    refine cseq ?_
    refine cseq ?_
    refine creg ?_
    refine ocall c_strings_Builder_Len _ [0] [] (by repeat (first | exact .n | refine .c rfl (.c (.e rfl)) ?_ | refine .c rfl (.c (.o (by decide) rfl)) ?_ | refine .c rfl (.c .n) ?_  | refine .c rfl (.g (by repeat (first | exact .n | refine .c (.e rfl) ?_ | refine .c (.o (by decide) rfl) ?_ | refine .c .n ?_))) ?_)) (by first | trivial | (refine ?_; omega) | (simp only []; omega) | (constructor <;> omega) | assumption) (.inl rfl) (by decide) (by decide) (by repeat (first | exact .n | refine .c rfl rfl ?_)) (Le rfl) (.inl rfl) (L rfl) ?_
    refine o (.inl rfl) (L rfl) (ibin rfl rfl rfl) rfl ?_
    refine onil ?_
    refine xthn ?_
    refine ccond rfl (fun c2 => ?_) (fun c2 => ?_)
    · repeat (first | simp only [decide_eq_true_eq] at c2 | simp only [decide_eq_false_iff_not] at c2 | simp only [beq_iff_eq] at c2 | simp only [bne_iff_ne] at c2 | simp only [Bool.not_eq_true'] at c2 | simp only [Bool.not_eq_false'] at c2 | simp only [beq_eq_false_iff_ne] at c2 | simp only [bne_eq_false_iff_eq] at c2 | simp only [Bool.not_not] at c2 | simp only [ne_eq] at c2 | simp only [Int.not_lt] at c2 | simp only [Int.not_le] at c2 | simp only [gt_iff_lt] at c2 | simp only [ge_iff_le] at c2 | simp only [Bool.not_eq_true] at c2 | simp only [Bool.not_eq_false] at c2 | simp only [Decidable.not_not] at c2)
      refine cseq ?_
      refine creg ?_
      refine o (.inl rfl) (L rfl) (asn rfl) rfl ?_
      refine o (.inl rfl) (L rfl) (asn rfl) rfl ?_
      refine onil ?_
      refine xthn ?_
      refine cret ?_
      refine xthr ?_
      refine retd rfl (.t rfl (.t rfl (.n))) (h0 hH) rfl ?_
      have c3 : 1000 < ((tx 0 [] l).length : Int) := c2
      have e : (txt [] l).length > 1000 := by rw [tx_txt]; omega
      exact re2 (by simp [cfgT, c1, e]) (by simp [cfgT, c1, e])
    · repeat (first | simp only [decide_eq_true_eq] at c2 | simp only [decide_eq_false_iff_not] at c2 | simp only [beq_iff_eq] at c2 | simp only [bne_iff_ne] at c2 | simp only [Bool.not_eq_true'] at c2 | simp only [Bool.not_eq_false'] at c2 | simp only [beq_eq_false_iff_ne] at c2 | simp only [bne_eq_false_iff_eq] at c2 | simp only [Bool.not_not] at c2 | simp only [ne_eq] at c2 | simp only [Int.not_lt] at c2 | simp only [Int.not_le] at c2 | simp only [gt_iff_lt] at c2 | simp only [ge_iff_le] at c2 | simp only [Bool.not_eq_true] at c2 | simp only [Bool.not_eq_false] at c2 | simp only [Decidable.not_not] at c2)
      refine cskip ?_
      refine xthn ?_
      refine cseq ?_
      refine creg ?_
      refine ocall c_strings_Builder_String _ [0] [] (by repeat (first | exact .n | refine .c rfl (.c (.e rfl)) ?_ | refine .c rfl (.c (.o (by decide) rfl)) ?_ | refine .c rfl (.c .n) ?_  | refine .c rfl (.g (by repeat (first | exact .n | refine .c (.e rfl) ?_ | refine .c (.o (by decide) rfl) ?_ | refine .c .n ?_))) ?_)) (by show (tx 0 [] l).length ≤ 9223372036854775807; omega) (.inl rfl) (by decide) (by decide) (by repeat (first | exact .n | refine .c rfl rfl ?_)) (Le rfl) (.inl rfl) (L rfl) ?_
      refine o (.inl rfl) (L rfl) (asn rfl) rfl ?_
      refine o (.inl rfl) (L rfl) (asn rfl) rfl ?_
      refine onil ?_
      refine xthn ?_
      refine cret ?_
      refine retd rfl (.t rfl (.t rfl (.n))) (h0 hH) rfl ?_
      have c3 : ((tx 0 [] l).length : Int) ≤ 1000 := c2
      have e : ¬ (txt [] l).length > 1000 := by rw [tx_txt]; omega
      exact re2 (by rw [cfgT, if_pos c1, if_neg e]; exact tx_txt l []) (by simp [cfgT, c1, e])

end Go.Proofs.YtifpekpmnlcmoaaE
