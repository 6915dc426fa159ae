import Derived.Test.YtifpekpmnlcmoaaProg
import Derived.Test.YtifpekpmnlcmoaaE33
import Derived.Test.YtifpekpmnlcmoaaD5
set_option linter.unusedVariables false
set_option linter.unusedSimpArgs false
set_option maxRecDepth 100000
namespace Go.Proofs.YtifpekpmnlcmoaaE
open Go Go.RowKit Go.Shelf Go.Proofs
theorem li37 : linfo Go.Proofs.Try.prog 37 = some (42, 3) := by kernel_rfl
theorem ti42 : TI Go.Proofs.Try.prog 42 true 3 := ti (by kernel_rfl)
theorem fi42_0 : finfo Go.Proofs.Try.prog 42 0 = some 0 := by kernel_rfl
theorem ti4 : TI Go.Proofs.Try.prog 4 false 1 := ti (by kernel_rfl)
theorem fi42_1 : finfo Go.Proofs.Try.prog 42 1 = some 1 := by kernel_rfl
theorem fi42_2 : finfo Go.Proofs.Try.prog 42 2 = some 2 := by kernel_rfl
theorem c_impl_DoCommands : Fe Go.Proofs.Try.prog 22 (ι := Leafs × List KROLSzSz.den) (fun | (l, c) => [.c (.l KRLSzSz) l, .c (.l KROLSzSz) c]) (fun | (l, c) => []) (fun | (l, c) => True) (fun | (l, c) => (.tup [.own 0, .c .b (cfgDo l c).2], [.arr true 94 KRLSzSz (cfgDo l c).1])) := by
  refine fnE (n := 56) Go.Proofs.Try.func22 rfl rfl (ent Go.Proofs.Try.func22 (by kernel_rfl) rfl) ?_
  rintro ⟨l, c⟩ hx
  refine ⟨Le rfl, fun w0 S0 H Z hH => ?_⟩
  try simp only [] at hx
  refine cseq ?_
  refine creg ?_
  refine o1 (asn rfl) ?_
  refine o1 (asn rfl) ?_
  refine onil ?_
  refine xthn ?_
  refine cseq ?_
  refine cseq ?_
  refine creg ?_
  refine o1 (mv rfl) ?_
  refine ce c_impl_GoodConfig _ [] [] (.c rfl (.c (.e rfl)) (.n)) (by first | trivial | assumption | omega | (simp only []; omega) | (refine ?_; omega) | (constructor <;> omega) | (refine ⟨?_, ?_⟩ <;> (first | assumption | omega | (simp; omega)))) (by decide) (by decide) (.n) rfl (.inl rfl) ?_ (.inl rfl)
  refine o1 (unot rfl) ?_
  refine o1 (mv rfl) ?_
  refine ocase (t := 14) rfl (fun c1 => ?_) (fun c1 => ?_)
  · try simp only [q1, q2, q3, q4, q5, q6, q7, q8, q9, q10, q11, q12, q13, q14, q15, q16, q17] at c1
    refine os rfl ?_
    refine os rfl ?_
    refine os rfl ?_
    refine o1 (pickT rfl rfl) ?_
    refine onil ?_
    refine xthn ?_
    refine ccT rfl ?_
    refine cseq ?_
    refine creg ?_
    refine o1 (asn rfl) ?_
    refine o1 (asn rfl) ?_
    refine onil ?_
    refine xthn ?_
    refine cret ?_
    refine xthr ?_
    refine xwk (wno (t := 4) true 94 KRLSzSz rfl) ?_
    refine retg (bs := [.own 0, .c .b (cfgDo l c).2]) (ob' := [.arr true 94 KRLSzSz (cfgDo l c).1]) [0] rfl (.t rfl (.t rfl (.n))) (by decide) (hk hH rfl) (.c rfl (arq ?_) (.n)) (lc rfl (lc (cq ?_) rfl)) rfl
    all_goals first | rfl | (rw [cfgDo, if_neg (fun h => by rw [h.1] at c1; cases c1)])
  · try simp only [q1, q2, q3, q4, q5, q6, q7, q8, q9, q10, q11, q12, q13, q14, q15, q16, q17] at c1
    refine og (mv rfl) ?_
    refine ofact (t := 15) rfl fun hl1 => ?_
    refine og (lenl rfl li37) ?_
    refine og (ibin rfl rfl rfl) ?_
    refine o1 (pickF rfl rfl) ?_
    refine onil ?_
    refine xthn ?_
    refine ccond rfl (fun c2 => ?_) (fun c2 => ?_)
    · try simp only [q1, q2, q3, q4, q5, q6, q7, q8, q9, q10, q11, q12, q13, q14, q15, q16, q17] at c2
      refine cseq ?_
      refine creg ?_
      refine o1 (asn rfl) ?_
      refine o1 (asn rfl) ?_
      refine onil ?_
      refine xthn ?_
      refine cret ?_
      refine xthr ?_
      refine xwk (wno (t := 4) true 94 KRLSzSz rfl) ?_
      refine retg (bs := [.own 0, .c .b (cfgDo l c).2]) (ob' := [.arr true 94 KRLSzSz (cfgDo l c).1]) [0] rfl (.t rfl (.t rfl (.n))) (by decide) (hk hH rfl) (.c rfl (arq ?_) (.n)) (lc rfl (lc (cq ?_) rfl)) rfl
      all_goals first | rfl | (rw [cfgDo, if_neg (fun h => by omega)])
    · try simp only [q1, q2, q3, q4, q5, q6, q7, q8, q9, q10, q11, q12, q13, q14, q15, q16, q17] at c2
      refine cskip ?_
      refine xthn ?_
      refine cseq ?_
      refine creg ?_
      refine o1 (mv rfl) ?_
      refine ce c_impl_ownConfig _ [] [] (.c rfl (.c (.e rfl)) (.n)) (by exact ⟨by have := good_len c1; omega, fun x hx2 => by have := (path_len (good_mem c1 hx2).1).2; omega⟩) (by decide) (by decide) (.n) rfl (.inl rfl) ?_ (.inl rfl)
      refine owk (wsl (t := 20) (.own 0) rfl rfl) ?_
      refine o1 (asn rfl) ?_
      refine onil ?_
      refine xthn ?_
      refine cseq ?_
      refine cseq ?_
      refine creg ?_
      refine o1 (mv rfl) ?_
      refine ofact (t := 21) rfl fun hl2 => ?_
      refine o1 (lenl rfl li37) ?_
      refine o1 (mv rfl) ?_
      refine onil ?_
      refine xthn ?_
      refine cblock ?_
      refine clk (ι := Nat × Leafs) (.c 21 rfl (.c 22 rfl (.n))) (fun | (i, m), r => (23, .c (.i .i64) ((i : Int))) :: (6, .own 0) :: r) (fun | (i, m), r => r.set 0 (.arr true 94 KRLSzSz (m))) (fun | (i, m) => i ≤ c.length ∧ doC l c = doC m (c.drop i)) (fun | (i, m) => c.length - i) (0, l) (by exact ⟨Nat.zero_le _, rfl⟩) (weak [0] (by decide) (hk hH rfl) (by repeat (first | exact .n | refine .c rfl (by first | rfl) ?_)) (by repeat (first | exact .n | refine .c rfl (by first | rfl) ?_))) ?_
      rintro ⟨i, m⟩ i0
      try simp only [] at i0
      refine cseq ?_
      refine creg ?_
      refine o1 (ibin rfl rfl rfl) ?_
      refine onil ?_
      refine xthn ?_
      refine cseq ?_
      refine ccond rfl (fun c3 => ?_) (fun c3 => ?_)
      · try simp only [q1, q2, q3, q4, q5, q6, q7, q8, q9, q10, q11, q12, q13, q14, q15, q16, q17] at c3
        refine cskip ?_
        refine xthn ?_
        refine cseq ?_
        refine cblock ?_
        refine cseq ?_
        refine creg ?_
        refine o1 (ixl rfl rfl li37 rfl (by first | omega | (simp only [List.length_cons, List.length_nil, List.length_append]; omega) | (simp; omega)) (by first | omega | (simp only [List.length_cons, List.length_nil, List.length_append]; omega) | (simp; omega))) ?_
        refine o1 (ldrn rfl ti42 (Le rfl)) ?_
        refine e1 (av := .bp 1 0) (salloc zi42) ?_
        refine owk (wnorm (.c (o := .arr _ _ _ _) rfl (.c (o := .box _ _) rfl (.n))) rfl) ?_
        refine e0 (sstn rfl rfl rfl rfl (Le rfl) ti42) ?_
        refine onil ?_
        refine xthn ?_
        refine cseq ?_
        refine creg ?_
        refine e1 (av := .own 2) (sbs0 mi26) ?_
        refine o1 (asn rfl) ?_
        refine o1 (asn rfl) ?_
        refine onil ?_
        refine xthn ?_
        refine cseq ?_
        refine cblock ?_
        refine cseq ?_
        refine creg ?_
        refine o1 (fab rfl fi42_0) ?_
        refine o1 (ldb rfl rfl rfl ti4) ?_
        refine o1 (asn rfl) ?_
        refine onil ?_
        refine xthn ?_
        refine ccond rfl (fun c4 => ?_) (fun c4 => ?_)
        · try simp only [q1, q2, q3, q4, q5, q6, q7, q8, q9, q10, q11, q12, q13, q14, q15, q16, q17] at c4
          have hs : step1 m (ix KROLSzSz.z c (i : Int)) = cfgSet m (ix KROLSzSz.z c (i : Int)).2.1 (ix KROLSzSz.z c (i : Int)).2.2.1 := if_pos c4
          refine creg ?_
          refine o1 (mv rfl) ?_
          refine o1 (fab rfl fi42_1) ?_
          refine o1 (ldb rfl rfl rfl ti40) ?_
          refine o1 (fab rfl fi42_2) ?_
          refine o1 (ldb rfl rfl rfl ti9) ?_
          refine ce c_impl_SetAt (_, _, _) [] [0] (.c rfl (.c (.o (k := 0) (by decide) rfl)) (.c rfl (.c (.e rfl)) (.c rfl (.c (.e rfl)) (.n)))) (by first | trivial | assumption | omega | (simp only []; omega) | (refine ?_; omega) | (constructor <;> omega) | (refine ⟨?_, ?_⟩ <;> (first | assumption | omega | (simp; omega)))) (by decide) (by decide) (.n) rfl (.inr ⟨rfl, by simp [Ob.free]⟩) ?_ (.inl rfl)
          refine o1 (mv rfl) ?_
          refine o1 (av := .own 3) (xtr rfl rfl) ?_
          refine o1 (xtr rfl rfl) ?_
          refine o1 (asn rfl) ?_
          refine o1 (asn rfl) ?_
          refine onil ?_
          refine xbn ?_
          refine xthn ?_
          refine cseq ?_
          refine cseq ?_
          refine creg ?_
          refine o1 (mv rfl) ?_
          refine o1 (unot rfl) ?_
          refine onil ?_
          refine xthn ?_
          refine ccond rfl (fun c5 => ?_) (fun c5 => ?_)
          · try simp only [q1, q2, q3, q4, q5, q6, q7, q8, q9, q10, q11, q12, q13, q14, q15, q16, q17] at c5
            have hd : doC l c = ([], false) := by rw [i0.2, doC_step (by omega), hs, if_neg (by simp [c5])]
            refine cseq ?_
            refine creg ?_
            refine o1 (asn rfl) ?_
            refine o1 (asn rfl) ?_
            refine onil ?_
            refine xthn ?_
            refine cret ?_
            refine xthr ?_
            refine xbr ?_
            refine xthr ?_
            refine xlr ?_
            refine xbr ?_
            refine xthr ?_
            refine xwk (wnorm (.c (o := .arr _ _ _ _) rfl (.c (o := .box _ _) rfl (.c (o := .arr _ _ _ _) rfl (.c (o := .arr _ _ _ _) rfl (.n))))) rfl) ?_
            refine xwk (wno (t := 4) true 94 KRLSzSz rfl) ?_
            refine retg (bs := [.own 0, .c .b (cfgDo l c).2]) (ob' := [.arr true 94 KRLSzSz (cfgDo l c).1]) [4] rfl (.t rfl (.t rfl (.n))) (by decide) (hk hH rfl) (.c rfl (arq ?_) (.n)) (lc rfl (lc (cq ?_) rfl)) rfl
            all_goals first | rfl | (rw [cfgDo, if_pos ⟨c1, by omega⟩, hd])
          · try simp only [q1, q2, q3, q4, q5, q6, q7, q8, q9, q10, q11, q12, q13, q14, q15, q16, q17] at c5
            refine cskip ?_
            refine xthn ?_
            refine creg ?_
            refine o1 (mv rfl) ?_
            refine o1 (asn rfl) ?_
            refine onil ?_
            refine xbn ?_
            refine xthn ?_
            refine creg ?_
            refine o1 (iadd rfl rfl (by first | omega | (simp only [List.length_cons, List.length_nil, List.length_append]; omega) | (simp; omega)) (by first | omega | (simp only [List.length_cons, List.length_nil, List.length_append]; omega) | (simp; omega))) ?_
            refine o1 (mv rfl) ?_
            refine onil ?_
            refine xlq (i + 1, (cfgSet m (ix KROLSzSz.z c (i : Int)).2.1 (ix KROLSzSz.z c (i : Int)).2.2.1).1) (by refine ⟨by omega, ?_⟩; rw [i0.2, doC_step (by omega), hs, if_pos c5]) (by first | omega | (simp only []; omega)) (weak [3] (by decide) (hk hH rfl) (by repeat (first | exact .n | refine .c rfl (by first | rfl) ?_)) (by repeat (first | exact .n | refine .c rfl (by first | rfl) ?_)))
        · try simp only [q1, q2, q3, q4, q5, q6, q7, q8, q9, q10, q11, q12, q13, q14, q15, q16, q17] at c4
          refine cseq ?_
          refine creg ?_
          refine o1 (fab rfl fi42_2) ?_
          refine o1 (ldb rfl rfl rfl ti9) ?_
          refine o1 (sbin rfl rfl rfl) ?_
          refine o1 (asn rfl) ?_
          refine onil ?_
          refine xthn ?_
          refine ccond rfl (fun c6 => ?_) (fun c6 => ?_)
          · try simp only [q1, q2, q3, q4, q5, q6, q7, q8, q9, q10, q11, q12, q13, q14, q15, q16, q17] at c6
            have hs : step1 m (ix KROLSzSz.z c (i : Int)) = cfgDel m (ix KROLSzSz.z c (i : Int)).2.1 := by rw [step1, if_neg (by simp [c4]), if_pos c6]
            refine creg ?_
            refine o1 (mv rfl) ?_
            refine o1 (fab rfl fi42_1) ?_
            refine o1 (ldb rfl rfl rfl ti40) ?_
            refine ce c_impl_DeleteAt (_, _) [] [0] (.c rfl (.c (.o (k := 0) (by decide) rfl)) (.c rfl (.c (.e rfl)) (.n))) (by first | trivial | assumption | omega | (simp only []; omega) | (refine ?_; omega) | (constructor <;> omega) | (refine ⟨?_, ?_⟩ <;> (first | assumption | omega | (simp; omega)))) (by decide) (by decide) (.n) rfl (.inr ⟨rfl, by simp [Ob.free]⟩) ?_ (.inl rfl)
            refine o1 (mv rfl) ?_
            refine o1 (av := .own 3) (xtr rfl rfl) ?_
            refine o1 (xtr rfl rfl) ?_
            refine o1 (asn rfl) ?_
            refine o1 (asn rfl) ?_
            refine onil ?_
            refine xbn ?_
            refine xthn ?_
            refine cseq ?_
            refine cseq ?_
            refine creg ?_
            refine o1 (mv rfl) ?_
            refine o1 (unot rfl) ?_
            refine onil ?_
            refine xthn ?_
            refine ccond rfl (fun c7 => ?_) (fun c7 => ?_)
            · try simp only [q1, q2, q3, q4, q5, q6, q7, q8, q9, q10, q11, q12, q13, q14, q15, q16, q17] at c7
              have hd : doC l c = ([], false) := by rw [i0.2, doC_step (by omega), hs, if_neg (by simp [c7])]
              refine cseq ?_
              refine creg ?_
              refine o1 (asn rfl) ?_
              refine o1 (asn rfl) ?_
              refine onil ?_
              refine xthn ?_
              refine cret ?_
              refine xthr ?_
              refine xbr ?_
              refine xthr ?_
              refine xlr ?_
              refine xbr ?_
              refine xthr ?_
              refine xwk (wnorm (.c (o := .arr _ _ _ _) rfl (.c (o := .box _ _) rfl (.c (o := .arr _ _ _ _) rfl (.c (o := .arr _ _ _ _) rfl (.n))))) rfl) ?_
              refine xwk (wno (t := 4) true 94 KRLSzSz rfl) ?_
              refine retg (bs := [.own 0, .c .b (cfgDo l c).2]) (ob' := [.arr true 94 KRLSzSz (cfgDo l c).1]) [4] rfl (.t rfl (.t rfl (.n))) (by decide) (hk hH rfl) (.c rfl (arq ?_) (.n)) (lc rfl (lc (cq ?_) rfl)) rfl
              all_goals first | rfl | (rw [cfgDo, if_pos ⟨c1, by omega⟩, hd])
            · try simp only [q1, q2, q3, q4, q5, q6, q7, q8, q9, q10, q11, q12, q13, q14, q15, q16, q17] at c7
              refine cskip ?_
              refine xthn ?_
              refine creg ?_
              refine o1 (mv rfl) ?_
              refine o1 (asn rfl) ?_
              refine onil ?_
              refine xbn ?_
              refine xthn ?_
              refine creg ?_
              refine o1 (iadd rfl rfl (by first | omega | (simp only [List.length_cons, List.length_nil, List.length_append]; omega) | (simp; omega)) (by first | omega | (simp only [List.length_cons, List.length_nil, List.length_append]; omega) | (simp; omega))) ?_
              refine o1 (mv rfl) ?_
              refine onil ?_
              refine xlq (i + 1, (cfgDel m (ix KROLSzSz.z c (i : Int)).2.1).1) (by refine ⟨by omega, ?_⟩; rw [i0.2, doC_step (by omega), hs, if_pos c7]) (by first | omega | (simp only []; omega)) (weak [3] (by decide) (hk hH rfl) (by repeat (first | exact .n | refine .c rfl (by first | rfl) ?_)) (by repeat (first | exact .n | refine .c rfl (by first | rfl) ?_)))
          · try simp only [q1, q2, q3, q4, q5, q6, q7, q8, q9, q10, q11, q12, q13, q14, q15, q16, q17] at c6
            have hs : step1 m (ix KROLSzSz.z c (i : Int)) = ([], false) := by rw [step1, if_neg (by simp [c4]), if_neg c6]
            have hd : doC l c = ([], false) := by rw [i0.2, doC_step (by omega), hs, if_neg (by simp)]
            refine cskip ?_
            refine xbn ?_
            refine xthn ?_
            refine cseq ?_
            refine cseq ?_
            refine creg ?_
            refine o1 (mv rfl) ?_
            refine o1 (unot rfl) ?_
            refine onil ?_
            refine xthn ?_
            refine ccT rfl ?_
            refine cseq ?_
            refine creg ?_
            refine o1 (asn rfl) ?_
            refine o1 (asn rfl) ?_
            refine onil ?_
            refine xthn ?_
            refine cret ?_
            refine xthr ?_
            refine xbr ?_
            refine xthr ?_
            refine xlr ?_
            refine xbr ?_
            refine xthr ?_
            refine xwk (wno (t := 4) true 94 KRLSzSz rfl) ?_
            refine retg (bs := [.own 0, .c .b (cfgDo l c).2]) (ob' := [.arr true 94 KRLSzSz (cfgDo l c).1]) [3] rfl (.t rfl (.t rfl (.n))) (by decide) (hk hH rfl) (.c rfl (arq ?_) (.n)) (lc rfl (lc (cq ?_) rfl)) rfl
            all_goals first | rfl | (rw [cfgDo, if_pos ⟨c1, by omega⟩, hd])
      · try simp only [q1, q2, q3, q4, q5, q6, q7, q8, q9, q10, q11, q12, q13, q14, q15, q16, q17] at c3
        refine cexit ?_
        refine xthe ?_
        refine xle ?_
        refine xbh ?_
        refine xthn ?_
        refine cseq ?_
        refine creg ?_
        refine o1 (mv rfl) ?_
        refine o1 (asn rfl) ?_
        refine o1 (asn rfl) ?_
        refine onil ?_
        refine xthn ?_
        refine cret ?_
        refine xwk (wnorm (.c (o := .arr _ _ _ _) rfl (.n)) rfl) ?_
        refine retg (bs := [.own 0, .c .b (cfgDo l c).2]) (ob' := [.arr true 94 KRLSzSz (cfgDo l c).1]) [0] rfl (.t rfl (.t rfl (.n))) (by decide) (hk hH rfl) (.c rfl (arq ?_) (.n)) (lc rfl (lc (cq ?_) rfl)) rfl
        all_goals first | rfl | (rw [cfgDo, if_pos ⟨c1, by omega⟩, i0.2, drop_nil (by omega), doC])

theorem c_impl_CommandText : Fe Go.Proofs.Try.prog 27 (ι := KROLSzSz.den) (fun | (s, p, v, u) => [.agg (avs 3 KROLSzSz (s, p, v, u))]) (fun | (s, p, v, u) => []) (fun | (s, p, v, u) => True) (fun | (s, p, v, u) => (.tup [.c .s (cmdT (s, p, v, u)).1, .c .b (cmdT (s, p, v, u)).2], [])) := by
  refine fnE (n := 42) Go.Proofs.Try.func27 rfl rfl (ent Go.Proofs.Try.func27 (by kernel_rfl) rfl) ?_
  rintro ⟨s, p, v, u⟩ hx
  refine ⟨Le rfl, fun w0 S0 H Z hH => ?_⟩
  try simp only [] at hx
  refine cseq ?_
  refine creg ?_
  refine e1 (av := .bp 0 0) (sboxn rfl rfl) ?_
  refine o1 (asn rfl) ?_
  refine o1 (asn rfl) ?_
  refine onil ?_
  refine xthn ?_
  refine cseq ?_
  refine cseq ?_
  refine creg ?_
  refine o1 (fab rfl fi42_1) ?_
  refine o1 (ldb rfl rfl rfl ti40) ?_
  refine ce c_impl_areWords _ [] [] (.c rfl (.c (.e rfl)) (.n)) (by first | trivial | assumption | omega | (simp only []; omega) | (refine ?_; omega) | (constructor <;> omega) | (refine ⟨?_, ?_⟩ <;> (first | assumption | omega | (simp; omega)))) (by decide) (by decide) (.n) rfl (.inl rfl) ?_ (.inl rfl)
  refine o1 (unot rfl) ?_
  refine o1 (mv rfl) ?_
  refine ocase (t := 9) rfl (fun c1 => ?_) (fun c1 => ?_)
  · try simp only [q1, q2, q3, q4, q5, q6, q7, q8, q9, q10, q11, q12, q13, q14, q15, q16, q17] at c1
    refine os rfl ?_
    refine os rfl ?_
    refine os rfl ?_
    refine ou ?_
    refine ou ?_
    refine ou ?_
    refine ou ?_
    refine os rfl ?_
    refine o1 (pickT rfl rfl) ?_
    refine o1 (mv rfl) ?_
    refine os rfl ?_
    refine os rfl ?_
    refine os rfl ?_
    refine os rfl ?_
    refine ou ?_
    refine ou ?_
    refine ou ?_
    refine os rfl ?_
    refine o1 (pickT rfl rfl) ?_
    refine onil ?_
    refine xthn ?_
    refine ccT rfl ?_
    refine cseq ?_
    refine creg ?_
    refine o1 (asn rfl) ?_
    refine o1 (asn rfl) ?_
    refine onil ?_
    refine xthn ?_
    refine cret ?_
    refine xthr ?_
    refine retg (bs := [.c .s (cmdT (s, p, v, u)).1, .c .b (cmdT (s, p, v, u)).2]) (ob' := []) [] rfl (.t rfl (.t rfl (.n))) (by decide) (hk hH rfl) (.n) (lc (cq ?_) (lc (cq ?_) rfl)) rfl
    all_goals first | rfl | (simp_all [cmdT, cmdOK])
  · try simp only [q1, q2, q3, q4, q5, q6, q7, q8, q9, q10, q11, q12, q13, q14, q15, q16, q17] at c1
    refine og (fab rfl fi42_0) ?_
    refine og (ldb rfl rfl rfl ti4) ?_
    refine og (mv rfl) ?_
    refine ocase (t := 12) rfl (fun c2 => ?_) (fun c2 => ?_)
    · try simp only [q1, q2, q3, q4, q5, q6, q7, q8, q9, q10, q11, q12, q13, q14, q15, q16, q17] at c2
      refine og (fab rfl fi42_2) ?_
      refine og (ldb rfl rfl rfl ti9) ?_
      refine ce c_impl_isWord _ [] [] (.c rfl (.c (.e rfl)) (.n)) (by first | trivial | assumption | omega | (simp only []; omega) | (refine ?_; omega) | (constructor <;> omega) | (refine ⟨?_, ?_⟩ <;> (first | assumption | omega | (simp; omega)))) (by decide) (by decide) (.n) rfl (.inl rfl) ?_ (wgd rfl rfl rfl)
      refine og (unot rfl) ?_
      refine og (pickT rfl rfl) ?_
      refine o1 (pickF rfl rfl) ?_
      refine o1 (mv rfl) ?_
      refine ocase (t := 19) rfl (fun c3 => ?_) (fun c3 => ?_)
      · try simp only [q1, q2, q3, q4, q5, q6, q7, q8, q9, q10, q11, q12, q13, q14, q15, q16, q17] at c3
        refine os rfl ?_
        refine os rfl ?_
        refine os rfl ?_
        refine os rfl ?_
        refine ou ?_
        refine ou ?_
        refine ou ?_
        refine os rfl ?_
        refine o1 (pickT rfl rfl) ?_
        refine onil ?_
        refine xthn ?_
        refine ccT rfl ?_
        refine cseq ?_
        refine creg ?_
        refine o1 (asn rfl) ?_
        refine o1 (asn rfl) ?_
        refine onil ?_
        refine xthn ?_
        refine cret ?_
        refine xthr ?_
        refine xwk (wnorm (.c (o := .box _ _) rfl (.n)) rfl) ?_
        refine retg (bs := [.c .s (cmdT (s, p, v, u)).1, .c .b (cmdT (s, p, v, u)).2]) (ob' := []) [] rfl (.t rfl (.t rfl (.n))) (by decide) (hk hH rfl) (.n) (lc (cq ?_) (lc (cq ?_) rfl)) rfl
        all_goals first | rfl | (simp_all [cmdT, cmdOK])
      · try simp only [q1, q2, q3, q4, q5, q6, q7, q8, q9, q10, q11, q12, q13, q14, q15, q16, q17] at c3
        refine og (fab rfl fi42_0) ?_
        refine og (ldb rfl rfl rfl ti4) ?_
        refine og (unot rfl) ?_
        refine og (mv rfl) ?_
        refine ocase (t := 23) rfl (fun c4 => ?_) (fun c4 => ?_)
        · try simp only [q1, q2, q3, q4, q5, q6, q7, q8, q9, q10, q11, q12, q13, q14, q15, q16, q17] at c4
          refine og (fab rfl fi42_2) ?_
          refine og (ldb rfl rfl rfl ti9) ?_
          refine og (sbin rfl rfl rfl) ?_
          refine og (pickT rfl rfl) ?_
          refine o1 (pickF rfl rfl) ?_
          refine onil ?_
          refine xthn ?_
          refine ccond rfl (fun c5 => ?_) (fun c5 => ?_)
          · try simp only [q1, q2, q3, q4, q5, q6, q7, q8, q9, q10, q11, q12, q13, q14, q15, q16, q17] at c5
            refine cseq ?_
            refine creg ?_
            refine o1 (asn rfl) ?_
            refine o1 (asn rfl) ?_
            refine onil ?_
            refine xthn ?_
            refine cret ?_
            refine xthr ?_
            refine xwk (wnorm (.c (o := .box _ _) rfl (.n)) rfl) ?_
            refine retg (bs := [.c .s (cmdT (s, p, v, u)).1, .c .b (cmdT (s, p, v, u)).2]) (ob' := []) [] rfl (.t rfl (.t rfl (.n))) (by decide) (hk hH rfl) (.n) (lc (cq ?_) (lc (cq ?_) rfl)) rfl
            all_goals first | rfl | (simp_all [cmdT, cmdOK])
          · try simp only [q1, q2, q3, q4, q5, q6, q7, q8, q9, q10, q11, q12, q13, q14, q15, q16, q17] at c5
            refine cskip ?_
            refine xthn ?_
            refine cseq ?_
            have pl := path_len (p := p) c1
            have jl := join_len (p := p) c1
            have jw := join_wds p (by intro e; rw [e] at pl; simp at pl)
            refine creg ?_
            refine o1 (fab rfl fi42_1) ?_
            refine o1 (ldb rfl rfl rfl ti40) ?_
            refine ce c_strings_Join (_, _) [] [] (.c rfl (.c (.e rfl)) (.c rfl (.c (.e rfl)) (.n))) (by first | trivial | assumption | omega | (simp only []; omega) | (refine ?_; omega) | (constructor <;> omega) | (refine ⟨?_, ?_⟩ <;> (first | assumption | omega | (simp; omega)))) (by decide) (by decide) (.n) rfl (.inl rfl) ?_ (.inl rfl)
            refine owk (wnorm (.c (o := .box _ _) rfl (.n)) rfl) ?_
            refine o1 (asn rfl) ?_
            refine onil ?_
            refine xthn ?_
            refine cseq ?_
            refine cseq ?_
            refine creg ?_
            refine o1 (fab rfl fi42_0) ?_
            refine o1 (ldb rfl rfl rfl ti4) ?_
            refine onil ?_
            refine xthn ?_
            refine ccond rfl (fun c6 => ?_) (fun c6 => ?_)
            · try simp only [q1, q2, q3, q4, q5, q6, q7, q8, q9, q10, q11, q12, q13, q14, q15, q16, q17] at c6
              refine cseq ?_
              have wl : v.length ≤ 8 := (word_len (by first | assumption | exact c3 | simp_all)).2
              refine creg ?_
              refine o1 (mv rfl) ?_
              refine o1 (sadd rfl rfl (by first | omega | (simp only [List.length_cons, List.length_nil, List.length_append]; omega) | (simp; omega))) ?_
              refine o1 (sadd rfl rfl (by first | omega | (simp only [List.length_cons, List.length_nil, List.length_append]; omega) | (simp; omega))) ?_
              refine o1 (fab rfl fi42_2) ?_
              refine o1 (ldb rfl rfl rfl ti9) ?_
              refine o1 (sadd rfl rfl (by first | omega | (simp only [List.length_cons, List.length_nil, List.length_append]; omega) | (simp; omega))) ?_
              refine o1 (asn rfl) ?_
              refine o1 (asn rfl) ?_
              refine onil ?_
              refine xthn ?_
              refine cret ?_
              refine xthr ?_
              refine retg (bs := [.c .s (cmdT (s, p, v, u)).1, .c .b (cmdT (s, p, v, u)).2]) (ob' := []) [] rfl (.t rfl (.t rfl (.n))) (by decide) (hk hH rfl) (.n) (lc (cq ?_) (lc (cq ?_) rfl)) rfl
              all_goals first | rfl | (simp_all [cmdT, cmdOK])
            · try simp only [q1, q2, q3, q4, q5, q6, q7, q8, q9, q10, q11, q12, q13, q14, q15, q16, q17] at c6
              refine cskip ?_
              refine xthn ?_
              refine cseq ?_
              refine creg ?_
              refine o1 (mv rfl) ?_
              refine o1 (sadd rfl rfl (by first | omega | (simp only [List.length_cons, List.length_nil, List.length_append]; omega) | (simp; omega))) ?_
              refine o1 (asn rfl) ?_
              refine o1 (asn rfl) ?_
              refine onil ?_
              refine xthn ?_
              refine cret ?_
              refine retg (bs := [.c .s (cmdT (s, p, v, u)).1, .c .b (cmdT (s, p, v, u)).2]) (ob' := []) [] rfl (.t rfl (.t rfl (.n))) (by decide) (hk hH rfl) (.n) (lc (cq ?_) (lc (cq ?_) rfl)) rfl
              all_goals first | rfl | (simp_all [cmdT, cmdOK])
        · try simp only [q1, q2, q3, q4, q5, q6, q7, q8, q9, q10, q11, q12, q13, q14, q15, q16, q17] at c4
          refine os rfl ?_
          refine os rfl ?_
          refine os rfl ?_
          refine og (pickF rfl rfl) ?_
          refine o1 (pickF rfl rfl) ?_
          refine onil ?_
          refine xthn ?_
          refine ccF rfl ?_
          refine cskip ?_
          refine xthn ?_
          refine cseq ?_
          have pl := path_len (p := p) c1
          have jl := join_len (p := p) c1
          have jw := join_wds p (by intro e; rw [e] at pl; simp at pl)
          refine creg ?_
          refine o1 (fab rfl fi42_1) ?_
          refine o1 (ldb rfl rfl rfl ti40) ?_
          refine ce c_strings_Join (_, _) [] [] (.c rfl (.c (.e rfl)) (.c rfl (.c (.e rfl)) (.n))) (by first | trivial | assumption | omega | (simp only []; omega) | (refine ?_; omega) | (constructor <;> omega) | (refine ⟨?_, ?_⟩ <;> (first | assumption | omega | (simp; omega)))) (by decide) (by decide) (.n) rfl (.inl rfl) ?_ (.inl rfl)
          refine owk (wnorm (.c (o := .box _ _) rfl (.n)) rfl) ?_
          refine o1 (asn rfl) ?_
          refine onil ?_
          refine xthn ?_
          refine cseq ?_
          refine cseq ?_
          refine creg ?_
          refine o1 (fab rfl fi42_0) ?_
          refine o1 (ldb rfl rfl rfl ti4) ?_
          refine onil ?_
          refine xthn ?_
          refine ccond rfl (fun c7 => ?_) (fun c7 => ?_)
          · try simp only [q1, q2, q3, q4, q5, q6, q7, q8, q9, q10, q11, q12, q13, q14, q15, q16, q17] at c7
            refine cseq ?_
            have wl : v.length ≤ 8 := (word_len (by first | assumption | exact c3 | simp_all)).2
            refine creg ?_
            refine o1 (mv rfl) ?_
            refine o1 (sadd rfl rfl (by first | omega | (simp only [List.length_cons, List.length_nil, List.length_append]; omega) | (simp; omega))) ?_
            refine o1 (sadd rfl rfl (by first | omega | (simp only [List.length_cons, List.length_nil, List.length_append]; omega) | (simp; omega))) ?_
            refine o1 (fab rfl fi42_2) ?_
            refine o1 (ldb rfl rfl rfl ti9) ?_
            refine o1 (sadd rfl rfl (by first | omega | (simp only [List.length_cons, List.length_nil, List.length_append]; omega) | (simp; omega))) ?_
            refine o1 (asn rfl) ?_
            refine o1 (asn rfl) ?_
            refine onil ?_
            refine xthn ?_
            refine cret ?_
            refine xthr ?_
            refine retg (bs := [.c .s (cmdT (s, p, v, u)).1, .c .b (cmdT (s, p, v, u)).2]) (ob' := []) [] rfl (.t rfl (.t rfl (.n))) (by decide) (hk hH rfl) (.n) (lc (cq ?_) (lc (cq ?_) rfl)) rfl
            all_goals first | rfl | (simp_all [cmdT, cmdOK])
          · try simp only [q1, q2, q3, q4, q5, q6, q7, q8, q9, q10, q11, q12, q13, q14, q15, q16, q17] at c7
            refine cskip ?_
            refine xthn ?_
            refine cseq ?_
            refine creg ?_
            refine o1 (mv rfl) ?_
            refine o1 (sadd rfl rfl (by first | omega | (simp only [List.length_cons, List.length_nil, List.length_append]; omega) | (simp; omega))) ?_
            refine o1 (asn rfl) ?_
            refine o1 (asn rfl) ?_
            refine onil ?_
            refine xthn ?_
            refine cret ?_
            refine retg (bs := [.c .s (cmdT (s, p, v, u)).1, .c .b (cmdT (s, p, v, u)).2]) (ob' := []) [] rfl (.t rfl (.t rfl (.n))) (by decide) (hk hH rfl) (.n) (lc (cq ?_) (lc (cq ?_) rfl)) rfl
            all_goals first | rfl | (simp_all [cmdT, cmdOK])
    · try simp only [q1, q2, q3, q4, q5, q6, q7, q8, q9, q10, q11, q12, q13, q14, q15, q16, q17] at c2
      refine os rfl ?_
      refine os rfl ?_
      refine os rfl ?_
      refine os rfl ?_
      refine og (pickF rfl rfl) ?_
      refine o1 (pickF rfl rfl) ?_
      refine o1 (mv rfl) ?_
      refine og (fab rfl fi42_0) ?_
      refine og (ldb rfl rfl rfl ti4) ?_
      refine og (unot rfl) ?_
      refine og (mv rfl) ?_
      refine ocase (t := 23) rfl (fun c8 => ?_) (fun c8 => ?_)
      · try simp only [q1, q2, q3, q4, q5, q6, q7, q8, q9, q10, q11, q12, q13, q14, q15, q16, q17] at c8
        refine og (fab rfl fi42_2) ?_
        refine og (ldb rfl rfl rfl ti9) ?_
        refine og (sbin rfl rfl rfl) ?_
        refine og (pickT rfl rfl) ?_
        refine o1 (pickF rfl rfl) ?_
        refine onil ?_
        refine xthn ?_
        refine ccond rfl (fun c9 => ?_) (fun c9 => ?_)
        · try simp only [q1, q2, q3, q4, q5, q6, q7, q8, q9, q10, q11, q12, q13, q14, q15, q16, q17] at c9
          refine cseq ?_
          refine creg ?_
          refine o1 (asn rfl) ?_
          refine o1 (asn rfl) ?_
          refine onil ?_
          refine xthn ?_
          refine cret ?_
          refine xthr ?_
          refine retg (bs := [.c .s (cmdT (s, p, v, u)).1, .c .b (cmdT (s, p, v, u)).2]) (ob' := []) [] rfl (.t rfl (.t rfl (.n))) (by decide) (hk hH rfl) (.n) (lc (cq ?_) (lc (cq ?_) rfl)) rfl
          all_goals first | rfl | (simp_all [cmdT, cmdOK])
        · try simp only [q1, q2, q3, q4, q5, q6, q7, q8, q9, q10, q11, q12, q13, q14, q15, q16, q17] at c9
          refine cskip ?_
          refine xthn ?_
          refine cseq ?_
          have pl := path_len (p := p) c1
          have jl := join_len (p := p) c1
          have jw := join_wds p (by intro e; rw [e] at pl; simp at pl)
          refine creg ?_
          refine o1 (fab rfl fi42_1) ?_
          refine o1 (ldb rfl rfl rfl ti40) ?_
          refine ce c_strings_Join (_, _) [] [] (.c rfl (.c (.e rfl)) (.c rfl (.c (.e rfl)) (.n))) (by first | trivial | assumption | omega | (simp only []; omega) | (refine ?_; omega) | (constructor <;> omega) | (refine ⟨?_, ?_⟩ <;> (first | assumption | omega | (simp; omega)))) (by decide) (by decide) (.n) rfl (.inl rfl) ?_ (.inl rfl)
          refine o1 (asn rfl) ?_
          refine onil ?_
          refine xthn ?_
          refine cseq ?_
          refine cseq ?_
          refine creg ?_
          refine o1 (fab rfl fi42_0) ?_
          refine o1 (ldb rfl rfl rfl ti4) ?_
          refine onil ?_
          refine xthn ?_
          refine ccond rfl (fun c10 => ?_) (fun c10 => ?_)
          · try simp only [q1, q2, q3, q4, q5, q6, q7, q8, q9, q10, q11, q12, q13, q14, q15, q16, q17] at c10
            refine cseq ?_
            have wl : v.length ≤ 8 := (word_len (by first | assumption | exact c3 | simp_all)).2
            refine creg ?_
            refine o1 (mv rfl) ?_
            refine o1 (sadd rfl rfl (by first | omega | (simp only [List.length_cons, List.length_nil, List.length_append]; omega) | (simp; omega))) ?_
            refine o1 (sadd rfl rfl (by first | omega | (simp only [List.length_cons, List.length_nil, List.length_append]; omega) | (simp; omega))) ?_
            refine o1 (fab rfl fi42_2) ?_
            refine o1 (ldb rfl rfl rfl ti9) ?_
            refine o1 (sadd rfl rfl (by first | omega | (simp only [List.length_cons, List.length_nil, List.length_append]; omega) | (simp; omega))) ?_
            refine o1 (asn rfl) ?_
            refine o1 (asn rfl) ?_
            refine onil ?_
            refine xthn ?_
            refine cret ?_
            refine xthr ?_
            refine xwk (wnorm (.c (o := .box _ _) rfl (.n)) rfl) ?_
            refine retg (bs := [.c .s (cmdT (s, p, v, u)).1, .c .b (cmdT (s, p, v, u)).2]) (ob' := []) [] rfl (.t rfl (.t rfl (.n))) (by decide) (hk hH rfl) (.n) (lc (cq ?_) (lc (cq ?_) rfl)) rfl
            all_goals first | rfl | (simp_all [cmdT, cmdOK])
          · try simp only [q1, q2, q3, q4, q5, q6, q7, q8, q9, q10, q11, q12, q13, q14, q15, q16, q17] at c10
            refine cskip ?_
            refine xthn ?_
            refine cseq ?_
            refine creg ?_
            refine o1 (mv rfl) ?_
            refine o1 (sadd rfl rfl (by first | omega | (simp only [List.length_cons, List.length_nil, List.length_append]; omega) | (simp; omega))) ?_
            refine o1 (asn rfl) ?_
            refine o1 (asn rfl) ?_
            refine onil ?_
            refine xthn ?_
            refine cret ?_
            refine xwk (wnorm (.c (o := .box _ _) rfl (.n)) rfl) ?_
            refine retg (bs := [.c .s (cmdT (s, p, v, u)).1, .c .b (cmdT (s, p, v, u)).2]) (ob' := []) [] rfl (.t rfl (.t rfl (.n))) (by decide) (hk hH rfl) (.n) (lc (cq ?_) (lc (cq ?_) rfl)) rfl
            all_goals first | rfl | (simp_all [cmdT, cmdOK])
      · try simp only [q1, q2, q3, q4, q5, q6, q7, q8, q9, q10, q11, q12, q13, q14, q15, q16, q17] at c8
        refine os rfl ?_
        refine os rfl ?_
        refine os rfl ?_
        refine og (pickF rfl rfl) ?_
        refine o1 (pickF rfl rfl) ?_
        refine onil ?_
        refine xthn ?_
        refine ccF rfl ?_
        refine cskip ?_
        refine xthn ?_
        refine cseq ?_
        have pl := path_len (p := p) c1
        have jl := join_len (p := p) c1
        have jw := join_wds p (by intro e; rw [e] at pl; simp at pl)
        refine creg ?_
        refine o1 (fab rfl fi42_1) ?_
        refine o1 (ldb rfl rfl rfl ti40) ?_
        refine ce c_strings_Join (_, _) [] [] (.c rfl (.c (.e rfl)) (.c rfl (.c (.e rfl)) (.n))) (by first | trivial | assumption | omega | (simp only []; omega) | (refine ?_; omega) | (constructor <;> omega) | (refine ⟨?_, ?_⟩ <;> (first | assumption | omega | (simp; omega)))) (by decide) (by decide) (.n) rfl (.inl rfl) ?_ (.inl rfl)
        refine o1 (asn rfl) ?_
        refine onil ?_
        refine xthn ?_
        refine cseq ?_
        refine cseq ?_
        refine creg ?_
        refine o1 (fab rfl fi42_0) ?_
        refine o1 (ldb rfl rfl rfl ti4) ?_
        refine onil ?_
        refine xthn ?_
        refine ccond rfl (fun c11 => ?_) (fun c11 => ?_)
        · try simp only [q1, q2, q3, q4, q5, q6, q7, q8, q9, q10, q11, q12, q13, q14, q15, q16, q17] at c11
          refine cseq ?_
          have wl : v.length ≤ 8 := (word_len (by first | assumption | exact c3 | simp_all)).2
          refine creg ?_
          refine o1 (mv rfl) ?_
          refine o1 (sadd rfl rfl (by first | omega | (simp only [List.length_cons, List.length_nil, List.length_append]; omega) | (simp; omega))) ?_
          refine o1 (sadd rfl rfl (by first | omega | (simp only [List.length_cons, List.length_nil, List.length_append]; omega) | (simp; omega))) ?_
          refine o1 (fab rfl fi42_2) ?_
          refine o1 (ldb rfl rfl rfl ti9) ?_
          refine o1 (sadd rfl rfl (by first | omega | (simp only [List.length_cons, List.length_nil, List.length_append]; omega) | (simp; omega))) ?_
          refine o1 (asn rfl) ?_
          refine o1 (asn rfl) ?_
          refine onil ?_
          refine xthn ?_
          refine cret ?_
          refine xthr ?_
          refine xwk (wnorm (.c (o := .box _ _) rfl (.n)) rfl) ?_
          refine retg (bs := [.c .s (cmdT (s, p, v, u)).1, .c .b (cmdT (s, p, v, u)).2]) (ob' := []) [] rfl (.t rfl (.t rfl (.n))) (by decide) (hk hH rfl) (.n) (lc (cq ?_) (lc (cq ?_) rfl)) rfl
          all_goals first | rfl | (simp_all [cmdT, cmdOK])
        · try simp only [q1, q2, q3, q4, q5, q6, q7, q8, q9, q10, q11, q12, q13, q14, q15, q16, q17] at c11
          refine cskip ?_
          refine xthn ?_
          refine cseq ?_
          refine creg ?_
          refine o1 (mv rfl) ?_
          refine o1 (sadd rfl rfl (by first | omega | (simp only [List.length_cons, List.length_nil, List.length_append]; omega) | (simp; omega))) ?_
          refine o1 (asn rfl) ?_
          refine o1 (asn rfl) ?_
          refine onil ?_
          refine xthn ?_
          refine cret ?_
          refine xwk (wnorm (.c (o := .box _ _) rfl (.n)) rfl) ?_
          refine retg (bs := [.c .s (cmdT (s, p, v, u)).1, .c .b (cmdT (s, p, v, u)).2]) (ob' := []) [] rfl (.t rfl (.t rfl (.n))) (by decide) (hk hH rfl) (.n) (lc (cq ?_) (lc (cq ?_) rfl)) rfl
          all_goals first | rfl | (simp_all [cmdT, cmdOK])

end Go.Proofs.YtifpekpmnlcmoaaE
