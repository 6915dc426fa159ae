import Derived.Test.YtifpekpmnlcmoaaProg
import Derived.Test.YtifpekpmnlcmoaaE33
import Derived.Test.YtifpekpmnlcmoaaA8
set_option linter.unusedVariables false
set_option linter.unusedSimpArgs false
set_option maxRecDepth 100000
namespace Go.Proofs.YtifpekpmnlcmoaaE
open Go Go.RowKit Go.Shelf Go.Proofs
theorem pi94 : binfo Go.Proofs.Try.prog 94 = some [(0, 1), (1, 1)] := by kernel_rfl
theorem c_slices_Clone_string_string : Fe Go.Proofs.Try.prog 128 (ι := StrS) (fun a => [.c (.l KS) a]) (fun a => []) (fun a => a.length ≤ 1048576) (fun a => (.own 0, [.arr false 9 KS a])) := by
  refine fnE (n := 8) Go.Proofs.Try.func128 rfl rfl (ent Go.Proofs.Try.func128 (by kernel_rfl) rfl) ?_
  rintro a hx
  refine ⟨Le rfl, fun w0 S0 H Z hH => ?_⟩
  try simp only [] at hx
  refine cseq ?_
  refine creg ?_
  refine o1 (asn rfl) ?_
  refine onil ?_
  refine xthn ?_
  refine cseq ?_
  refine cseq ?_
  refine creg ?_
  refine o1 (mv rfl) ?_
  refine oeqn (.inl rfl) (L rfl) rfl li40 (fun z1 hz1 => ?_)
  refine onil ?_
  refine xthn ?_
  refine ccond rfl (fun c1 => ?_) (fun c1 => ?_)
  · try simp only [q1, q2, q3, q4, q5, q6, q7, q8, q9, q10, q11, q12, q13, q14, q15, q16, q17] at c1
    refine cseq ?_
    refine creg ?_
    refine o1 (asn rfl) ?_
    refine onil ?_
    refine xthn ?_
    refine cret ?_
    refine xthr ?_
    refine xwk (wno (t := 2) false 9 KS rfl) ?_
    refine retg (bs := [.own 0]) (ob' := [.arr false 9 KS a]) [0] rfl (.t rfl (.n)) (by decide) (hk hH rfl) (.c rfl (arq ?_) (.n)) (lc rfl rfl) rfl
    all_goals first | rfl | (first | exact (hz1 c1).symm | simp)
  · try simp only [q1, q2, q3, q4, q5, q6, q7, q8, q9, q10, q11, q12, q13, q14, q15, q16, q17] at c1
    refine cskip ?_
    refine xthn ?_
    refine cseq ?_
    refine creg ?_
    refine e1 (av := .own 0) (sbs0 mi40) ?_
    refine o1 (mv rfl) ?_
    refine e1 (av := .own 1) (sapp (k := 0) rfl rfl rfl .c mi40 (L rfl) (by first | omega | (simp only [List.length_cons, List.length_nil, List.length_append]; omega) | (simp; omega)) (by first | omega | (simp only [List.length_cons, List.length_nil, List.length_append]; omega) | (simp; omega))) ?_
    refine o1 (asn rfl) ?_
    refine onil ?_
    refine xthn ?_
    refine cret ?_
    refine retg (bs := [.own 0]) (ob' := [.arr false 9 KS a]) [1] rfl (.t rfl (.n)) (by decide) (hk hH rfl) (.c rfl (arq ?_) (.n)) (lc rfl rfl) rfl
    all_goals first | rfl | (first | exact (hz1 c1).symm | simp)

theorem c_impl_ownConfig : Fe Go.Proofs.Try.prog 81 (ι := Leafs) (fun l => [.c (.l KRLSzSz) l]) (fun l => []) (fun l => l.length ≤ 1048576 ∧ ∀ x ∈ l, x.1.length ≤ 1048576) (fun l => (.own 0, [.arr true 94 KRLSzSz l])) := by
  refine fnE (n := 24) Go.Proofs.Try.func81 rfl rfl (ent Go.Proofs.Try.func81 (by kernel_rfl) rfl) ?_
  rintro l hx
  refine ⟨Le rfl, fun w0 S0 H Z hH => ?_⟩
  try simp only [] at hx
  refine cseq ?_
  refine creg ?_
  refine o1 (asn rfl) ?_
  refine onil ?_
  refine xthn ?_
  refine cseq ?_
  refine creg ?_
  refine e1 (av := .own 0) (sbs0 mi26) ?_
  refine o1 (asn rfl) ?_
  refine onil ?_
  refine xthn ?_
  refine cseq ?_
  refine cseq ?_
  refine creg ?_
  refine o1 (mv rfl) ?_
  refine ofact (t := 7) rfl fun hl1 => ?_
  refine o1 (lenl rfl li26) ?_
  refine o1 (mv rfl) ?_
  refine onil ?_
  refine xthn ?_
  refine cblock ?_
  refine cwk (wdp (k := 0) rfl rfl) ?_
  refine clk (ι := Nat) (.c 7 rfl (.c 8 rfl (.n))) (fun i r => (9, .c (.i .i64) ((i : Int))) :: (3, .own 0) :: r) (fun i r => r.set 0 (.arr true 94 KRLSzSz (l.take i))) (fun i => i ≤ l.length) (fun i => l.length - i) 0 (by simp) (weak [0] (by decide) (hk hH rfl) (by repeat (first | exact .n | refine .c rfl (by first | rfl | exact arq (by rw [take_ix (z := KRLSzSz.z) (by omega)])) ?_)) (by repeat (first | exact .n | refine .c rfl (by first | rfl) ?_))) ?_
  rintro i i0
  try simp only [] at i0
  refine cseq ?_
  refine creg ?_
  refine o1 (ibin rfl rfl rfl) ?_
  refine onil ?_
  refine xthn ?_
  refine cseq ?_
  refine ccond rfl (fun c1 => ?_) (fun c1 => ?_)
  · try simp only [q1, q2, q3, q4, q5, q6, q7, q8, q9, q10, q11, q12, q13, q14, q15, q16, q17] at c1
    refine cskip ?_
    refine xthn ?_
    refine cseq ?_
    refine cblock ?_
    refine cseq ?_
    refine creg ?_
    refine o1 (ixl rfl rfl li26 rfl (by first | omega | (simp only [List.length_cons, List.length_nil, List.length_append]; omega) | (simp; omega)) (by first | omega | (simp only [List.length_cons, List.length_nil, List.length_append]; omega) | (simp; omega))) ?_
    refine o1 (ldrn rfl ti94 (Le rfl)) ?_
    refine e1 (av := .bp 1 0) (salloc zi94) ?_
    refine e0 (sstn rfl rfl rfl rfl (Le rfl) ti94) ?_
    refine owk (wnorm (.c (o := .arr _ _ _ _) rfl (.c (o := .box _ _) rfl (.n))) rfl) ?_
    refine onil ?_
    refine xthn ?_
    refine cregh [0] mixed ?_
    refine v1 (hi := rfl) 0 (fun _ => mv rfl) ?_
    refine v1 (hi := rfl) 1 (fun _ => fab rfl fi94_0) ?_
    refine v1 (hi := rfl) 2 (fun _ => ldb rfl rfl rfl ti40) ?_
    refine v1 (hi := rfl) 4 (fun _ => fab rfl fi94_1) ?_
    refine v1 (hi := rfl) 5 (fun _ => ldb rfl rfl rfl ti9) ?_
    refine hn1 (n := 3) ?_
    refine xce (hi := rfl) c_slices_Clone_string_string _ [] [] [0, 2] (.c rfl (.c (.e rfl)) (.n)) (by exact hx.2 _ (ix_mem (z := KRLSzSz.z) (i := i) (by omega))) (by decide) (by decide) (.n) rfl (.inl rfl) ?_ (.inl rfl)
    refine hsl (t := 16) (.own 2) rfl rfl ?_
    refine v1 (hi := rfl) 6 (fun _ => bld pi94 zi94 (.c rfl rfl (.c rfl rfl .n)) rfl) ?_
    refine hn1 (n := 7) ?_
    refine x1 (hi := rfl) (av := .own 3) [0, 2, 3] (sbs1d mi26 (L rfl) (Le rfl) rfl .g (.o (k := 2) rfl rfl (.c rfl (.n))) (by decide)) ?_
    refine hn1 (n := 8) ?_
    refine x1 (hi := rfl) (av := .own 4) [0, 2, 3] (sappd (k := 0) (j := 3) rfl rfl rfl rfl rfl rfl mi26 (L rfl) (by first | omega | (simp only [List.length_cons, List.length_nil, List.length_append]; omega) | (simp; omega)) (by first | omega | (simp only [List.length_cons, List.length_nil, List.length_append]; omega) | (simp; omega))) ?_
    refine hnorm (.c rfl (.c (o := .box _ _) rfl (.c rfl (.c rfl (.c (o := .arr _ _ _ _) rfl (.n)))))) rfl ?_
    refine v1 (hi := rfl) 9 (fun _ => asn rfl) ?_
    refine h9 ?_
    refine xbn ?_
    refine xthn ?_
    refine creg ?_
    refine o1 (iadd rfl rfl (by first | omega | (simp only [List.length_cons, List.length_nil, List.length_append]; omega) | (simp; omega)) (by first | omega | (simp only [List.length_cons, List.length_nil, List.length_append]; omega) | (simp; omega))) ?_
    refine o1 (mv rfl) ?_
    refine onil ?_
    refine xlq (i + 1) (by omega) (by first | omega | (simp only []; omega)) (weak [4] (by decide) (hk hH rfl) (by repeat (first | exact .n | refine .c rfl (by first | rfl | exact arq (by rw [take_ix (z := KRLSzSz.z) (by omega)])) ?_)) (by repeat (first | exact .n | refine .c rfl (by first | rfl) ?_)))
  · try simp only [q1, q2, q3, q4, q5, q6, q7, q8, q9, q10, q11, q12, q13, q14, q15, q16, q17] at c1
    refine cexit ?_
    refine xthe ?_
    refine xle ?_
    refine xbh ?_
    refine xthn ?_
    refine cseq ?_
    refine creg ?_
    refine o1 (mv rfl) ?_
    refine o1 (asn rfl) ?_
    refine onil ?_
    refine xthn ?_
    refine cret ?_
    refine retg (bs := [.own 0]) (ob' := [.arr true 94 KRLSzSz l]) [0] rfl (.t rfl (.n)) (by decide) (hk hH rfl) (.c rfl (arq ?_) (.n)) (lc rfl rfl) rfl
    all_goals first | rfl | (exact List.take_of_length_le (by omega))

end Go.Proofs.YtifpekpmnlcmoaaE
