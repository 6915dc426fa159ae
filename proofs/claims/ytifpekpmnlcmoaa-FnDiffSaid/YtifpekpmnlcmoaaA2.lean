import Derived.Test.YtifpekpmnlcmoaaProg
import Derived.Test.YtifpekpmnlcmoaaE19
import Derived.Test.YtifpekpmnlcmoaaA1
set_option linter.unusedVariables false
set_option linter.unusedSimpArgs false
set_option maxRecDepth 100000
namespace Go.Proofs.YtifpekpmnlcmoaaE
open Go Go.RowKit Go.Shelf Go.Proofs
theorem mi40 : MI Go.Proofs.Try.prog 40 9 KS 16 := ⟨by kernel_rfl, by kernel_rfl⟩
theorem zi94 : zinfo Go.Proofs.Try.prog 94 = some [.nl, .c .s []] := by kernel_rfl
theorem fi94_0 : finfo Go.Proofs.Try.prog 94 0 = some 0 := by kernel_rfl
theorem fi94_1 : finfo Go.Proofs.Try.prog 94 1 = some 1 := by kernel_rfl
theorem ti94 : TI Go.Proofs.Try.prog 94 true 2 := ti (by kernel_rfl)
theorem mi26 : MI Go.Proofs.Try.prog 26 94 KRLSzSz 40 := ⟨by kernel_rfl, by kernel_rfl⟩
theorem li26 : linfo Go.Proofs.Try.prog 26 = some (94, 2) := by kernel_rfl

theorem rep_set {α : Type} {z x : α} {a : List α} {i : Nat} (h : i < a.length) (hx : x = ix z a i) : (a.take i ++ List.replicate (a.length - i) z).set i x = a.take (i + 1) ++ List.replicate (a.length - (i + 1)) z := by
  subst hx
  have e : a.length - i = (a.length - (i + 1)) + 1 := by omega
  rw [e, List.replicate_succ, List.set_append_right _ _ (by simp; omega), List.length_take, Nat.min_eq_left (by omega), Nat.sub_self, List.set_cons_zero]
  have e2 : a.take (i + 1) = a.take i ++ [ix z a i] := by
    rw [List.take_add_one, List.getElem?_eq_getElem h]
    simp [ix, List.getD_eq_getElem?_getD, h]
  rw [e2]; simp

theorem c_laws_toStringS : Fe Go.Proofs.Try.prog 110 (ι := StrS) (fun a => [.c (.l KS) a]) (fun _ => []) (fun a => a.length ≤ 1048576) (fun a => (.c (.l KS) a, [])) := by
  refine fnE (n := 22) Go.Proofs.Try.func110 rfl rfl (ent Go.Proofs.Try.func110 (by kernel_rfl) rfl) ?_
  rintro a hx
  refine ⟨Le rfl, fun w0 S0 H Z hH => ?_⟩
  try simp only [] at hx
  refine cseq ?_
  refine creg ?_
  refine o (.inl rfl) (L rfl) (asn rfl) rfl ?_
  refine onil ?_
  refine xthn ?_
  refine cseq ?_
  refine creg ?_
  refine o (.inl rfl) (L rfl) (mv rfl) rfl ?_
  first | refine ofact (t := 5) rfl fun hl1 => ?_ | refine ofacts (t := 5) rfl fun hl1 => ?_ | skip
  first | refine o (.inl rfl) (L rfl) (lenl rfl li40) rfl ?_ | refine o (.inl rfl) (L rfl) (leno rfl rfl li40) rfl ?_ | refine o (.inl rfl) (L rfl) (lennl rfl li40) rfl ?_
  refine omk (.inl rfl) (L rfl) rfl rfl mi40 (L rfl) (by first | omega | (simp; omega)) (by first | omega | (simp; omega)) (by first | omega | (simp; omega)) ?_
  refine o (.inl rfl) (L rfl) (asn rfl) rfl ?_
  refine onil ?_
  refine xthn ?_
  refine cseq ?_
  refine cseq ?_
  refine creg ?_
  refine o (.inl rfl) (L rfl) (asn rfl) rfl ?_
  refine onil ?_
  refine xthn ?_
  refine cblock ?_
  refine cloop (ι := Nat) (fun | i => [(0, .c (.l KS) a), (3, .own 0), (4, .c (.i .i64) (i : Int))]) (fun | i => [.arr false 9 KS (a.take i ++ List.replicate (a.length - i) KS.z)]) (fun | i => i ≤ a.length) (fun | i => a.length - i) 0 (by simp) (weak [0] (by decide) (h0 hH) (by repeat (first | exact .n | refine .c rfl (by first | rfl | exact congrArg (Ob.arr false 9 KS) (rep_set (by omega) rfl)) ?_)) (by repeat (first | exact .n | refine .c rfl (by first | rfl | (simp; done)) ?_))) ?_
  rintro i i0
  try simp only [] at i0
  refine cseq ?_
  refine cseq ?_
  refine creg ?_
  refine o (.inl rfl) (L rfl) (mv rfl) rfl ?_
  refine o (.inl rfl) (L rfl) (mv rfl) rfl ?_
  first | refine ofact (t := 9) rfl fun hl2 => ?_ | refine ofacts (t := 9) rfl fun hl2 => ?_ | skip
  first | refine o (.inl rfl) (L rfl) (lenl rfl li40) rfl ?_ | refine o (.inl rfl) (L rfl) (leno rfl rfl li40) rfl ?_ | refine o (.inl rfl) (L rfl) (lennl rfl li40) rfl ?_
  refine o (.inl rfl) (L rfl) (ibin rfl rfl rfl) rfl ?_
  refine onil ?_
  refine xthn ?_
  refine ccond rfl (fun c1 => ?_) (fun c1 => ?_)
  · try simp only [q1, q2, q3, q4, q5, q6, q7, q8, q9, q10, q11, q12, q13, q14, q15, q16, q17] at c1
    refine cskip ?_
    refine xthn ?_
    refine cseq ?_
    refine cblock ?_
    refine creg ?_
    refine o (.inl rfl) (L rfl) (mv rfl) rfl ?_
    refine o (.inl rfl) (L rfl) (mv rfl) rfl ?_
    refine o (.inl rfl) (L rfl) (mv rfl) rfl ?_
    refine o (.inl rfl) (L rfl) (mv rfl) rfl ?_
    first | refine o (.inl rfl) (L rfl) (ixl rfl rfl li40 rfl (by first | omega | (simp; omega)) (by first | omega | (simp; omega))) rfl ?_ | refine o (.inl rfl) (L rfl) (ixo rfl rfl rfl li40 rfl (by first | omega | (simp; omega)) (by first | omega | (simp; omega))) rfl ?_
    first | refine o (.inl rfl) (L rfl) (ldb rfl rfl rfl ti9) rfl ?_ | refine o (.inl rfl) (L rfl) (ldr rfl ti9) rfl ?_ | refine o (.inl rfl) (L rfl) (lde rfl rfl (by first | omega | (simp; omega)) (L rfl) rfl ti9) rfl ?_
    first | refine o (.inl rfl) (L rfl) (ixl rfl rfl li40 rfl (by first | omega | (simp; omega)) (by first | omega | (simp; omega))) rfl ?_ | refine o (.inl rfl) (L rfl) (ixo rfl rfl rfl li40 rfl (by first | omega | (simp; omega)) (by first | omega | (simp; omega))) rfl ?_
    first | refine ost (.inl rfl) rfl rfl rfl rfl (Le rfl) ti9 ?_ | refine ste (.inl rfl) rfl rfl (by first | omega | (simp; omega)) rfl .c ti9 ?_
    refine onil ?_
    refine xbn ?_
    refine xthn ?_
    refine creg ?_
    refine o (.inl rfl) (L rfl) (mv rfl) rfl ?_
    refine o (.inl rfl) (L rfl) (iadd rfl rfl (by first | omega | (simp; omega)) (by first | omega | (simp; omega))) rfl ?_
    refine o (.inl rfl) (L rfl) (asn rfl) rfl ?_
    refine onil ?_
    refine xlq (i + 1) (by omega) (by simp only []; omega) (weak [0] (by decide) (h0 hH) (by repeat (first | exact .n | refine .c rfl (by first | rfl | exact congrArg (Ob.arr false 9 KS) (rep_set (by omega) rfl)) ?_)) (by repeat (first | exact .n | refine .c rfl (by first | rfl | (simp; done)) ?_)))
  · try simp only [q1, q2, q3, q4, q5, q6, q7, q8, q9, q10, q11, q12, q13, q14, q15, q16, q17] at c1
    refine cexit ?_
    refine xthe ?_
    refine xle ?_
    refine xbh ?_
    refine xthn ?_
    refine cseq ?_
    refine creg ?_
    refine o (.inl rfl) (L rfl) (mv rfl) rfl ?_
    refine o (.inl rfl) (L rfl) (asn rfl) rfl ?_
    refine onil ?_
    refine xthn ?_
    refine cret ?_
    refine xwk (shr (t := 2) rfl rfl) ?_
    refine retd rfl (.t rfl (.n)) (h0 hH) rfl ?_
    refine re ?_
    have e : i = a.length := by omega
    subst e; simp

theorem c_laws_toLeaf : Fe Go.Proofs.Try.prog 59 (ι := KRLSzSz.den) (fun a => [.agg (avs 2 KRLSzSz a)]) (fun _ => []) (fun a => a.1.length ≤ 1048576) (fun a => (.agg (avs 2 KRLSzSz a), [])) := by
  refine fnE (n := 12) Go.Proofs.Try.func59 rfl rfl (ent Go.Proofs.Try.func59 (by kernel_rfl) rfl) ?_
  rintro a hx
  refine ⟨Le rfl, fun w0 S0 H Z hH => ?_⟩
  try simp only [] at hx
  refine cseq ?_
  refine creg ?_
  refine oboxn (.inl rfl) (L rfl) rfl rfl ?_
  refine oalloc (.inl rfl) (L rfl) zi94 ?_
  refine onil ?_
  refine xthn ?_
  refine cseq ?_
  refine creg ?_
  refine oalloc (.inl rfl) (L rfl) zi94 ?_
  refine onil ?_
  refine xthn ?_
  refine cseq ?_
  refine creg ?_
  first | refine o (.inl rfl) (L rfl) (fab rfl fi92_0) rfl ?_ | refine o (.inl rfl) (L rfl) (fae rfl fi92_0) rfl ?_ | refine o (.inl rfl) (L rfl) (far rfl fi92_0 (Le rfl)) rfl ?_
  first | refine o (.inl rfl) (L rfl) (ldb rfl rfl rfl ti40) rfl ?_ | refine o (.inl rfl) (L rfl) (ldr rfl ti40) rfl ?_ | refine o (.inl rfl) (L rfl) (lde rfl rfl (by first | omega | (simp; omega)) (L rfl) rfl ti40) rfl ?_
  refine ocall c_laws_toStringS _ [] [] (by repeat (first | exact .n | refine .c rfl (.c (.e rfl)) ?_ | refine .c rfl (.c (.o (by decide) rfl)) ?_ | refine .c rfl (.c .n) ?_  | refine .c rfl (.g (by repeat (first | exact .n | refine .c (.e rfl) ?_ | refine .c (.o (by decide) rfl) ?_ | refine .c .n ?_))) ?_)) (by exact hx) (.inl rfl) (by decide) (by decide) (by repeat (first | exact .n | refine .c rfl rfl ?_)) (Le rfl) (.inl rfl) (L rfl) ?_
  first | refine o (.inl rfl) (L rfl) (fab rfl fi94_0) rfl ?_ | refine o (.inl rfl) (L rfl) (fae rfl fi94_0) rfl ?_ | refine o (.inl rfl) (L rfl) (far rfl fi94_0 (Le rfl)) rfl ?_
  first | refine ost (.inl rfl) rfl rfl rfl rfl (Le rfl) ti40 ?_ | refine ste (.inl rfl) rfl rfl (by first | omega | (simp; omega)) rfl .c ti40 ?_
  refine onil ?_
  refine xthn ?_
  refine cseq ?_
  refine creg ?_
  first | refine o (.inl rfl) (L rfl) (fab rfl fi92_1) rfl ?_ | refine o (.inl rfl) (L rfl) (fae rfl fi92_1) rfl ?_ | refine o (.inl rfl) (L rfl) (far rfl fi92_1 (Le rfl)) rfl ?_
  first | refine o (.inl rfl) (L rfl) (ldb rfl rfl rfl ti9) rfl ?_ | refine o (.inl rfl) (L rfl) (ldr rfl ti9) rfl ?_ | refine o (.inl rfl) (L rfl) (lde rfl rfl (by first | omega | (simp; omega)) (L rfl) rfl ti9) rfl ?_
  first | refine o (.inl rfl) (L rfl) (fab rfl fi94_1) rfl ?_ | refine o (.inl rfl) (L rfl) (fae rfl fi94_1) rfl ?_ | refine o (.inl rfl) (L rfl) (far rfl fi94_1 (Le rfl)) rfl ?_
  first | refine ost (.inl rfl) rfl rfl rfl rfl (Le rfl) ti9 ?_ | refine ste (.inl rfl) rfl rfl (by first | omega | (simp; omega)) rfl .c ti9 ?_
  refine onil ?_
  refine xthn ?_
  refine cseq ?_
  refine creg ?_
  first | refine o (.inl rfl) (L rfl) (ldbn rfl rfl ti94 (Le rfl)) rfl ?_ | refine o (.inl rfl) (L rfl) (ldrn rfl ti94 (Le rfl)) rfl ?_ | refine o (.inl rfl) (L rfl) (lden rfl rfl (by first | omega | (simp; omega)) ti94) rfl ?_
  first | refine ostn (.inl rfl) rfl rfl rfl rfl (Le rfl) ti94 ?_ | refine ste (.inl rfl) rfl rfl (by first | omega | (simp; omega)) rfl (.g rfl) ti94 ?_
  refine onil ?_
  refine xthn ?_
  refine cret ?_
  refine retd rfl (.g rfl rfl (Le rfl) ti94 (.n)) (h0 hH) rfl ?_
  rfl

theorem c_laws_toLeafS : Fe Go.Proofs.Try.prog 11 (ι := Leafs) (fun a => [.c (.l KRLSzSz) a]) (fun _ => []) (fun a => a.length ≤ 1048576 ∧ ∀ x ∈ a, x.1.length ≤ 1048576) (fun a => (.c (.l KRLSzSz) a, [])) := by
  refine fnE (n := 23) Go.Proofs.Try.func11 rfl rfl (ent Go.Proofs.Try.func11 (by kernel_rfl) rfl) ?_
  rintro a hx
  refine ⟨Le rfl, fun w0 S0 H Z hH => ?_⟩
  try simp only [] at hx
  refine cseq ?_
  refine creg ?_
  refine o (.inl rfl) (L rfl) (asn rfl) rfl ?_
  refine onil ?_
  refine xthn ?_
  refine cseq ?_
  refine creg ?_
  refine o (.inl rfl) (L rfl) (mv rfl) rfl ?_
  first | refine ofact (t := 5) rfl fun hl1 => ?_ | refine ofacts (t := 5) rfl fun hl1 => ?_ | skip
  first | refine o (.inl rfl) (L rfl) (lenl rfl li22) rfl ?_ | refine o (.inl rfl) (L rfl) (leno rfl rfl li22) rfl ?_ | refine o (.inl rfl) (L rfl) (lennl rfl li22) rfl ?_
  refine omk (.inl rfl) (L rfl) rfl rfl mi26 (L rfl) (by first | omega | (simp; omega)) (by first | omega | (simp; omega)) (by first | omega | (simp; omega)) ?_
  refine o (.inl rfl) (L rfl) (asn rfl) rfl ?_
  refine onil ?_
  refine xthn ?_
  refine cseq ?_
  refine cseq ?_
  refine creg ?_
  refine o (.inl rfl) (L rfl) (asn rfl) rfl ?_
  refine onil ?_
  refine xthn ?_
  refine cblock ?_
  refine cloop (ι := Nat) (fun | i => [(0, .c (.l KRLSzSz) a), (3, .own 0), (4, .c (.i .i64) (i : Int))]) (fun | i => [.arr false 94 KRLSzSz (a.take i ++ List.replicate (a.length - i) KRLSzSz.z)]) (fun | i => i ≤ a.length) (fun | i => a.length - i) 0 (by simp) (weak [0] (by decide) (h0 hH) (by repeat (first | exact .n | refine .c rfl (by first | rfl | exact congrArg (Ob.arr false 94 KRLSzSz) (rep_set (by omega) rfl)) ?_)) (by repeat (first | exact .n | refine .c rfl (by first | rfl | (simp; done)) ?_))) ?_
  rintro i i0
  try simp only [] at i0
  refine cseq ?_
  refine cseq ?_
  refine creg ?_
  refine o (.inl rfl) (L rfl) (mv rfl) rfl ?_
  refine o (.inl rfl) (L rfl) (mv rfl) rfl ?_
  first | refine ofact (t := 9) rfl fun hl2 => ?_ | refine ofacts (t := 9) rfl fun hl2 => ?_ | skip
  first | refine o (.inl rfl) (L rfl) (lenl rfl li22) rfl ?_ | refine o (.inl rfl) (L rfl) (leno rfl rfl li22) rfl ?_ | refine o (.inl rfl) (L rfl) (lennl rfl li22) rfl ?_
  refine o (.inl rfl) (L rfl) (ibin rfl rfl rfl) rfl ?_
  refine onil ?_
  refine xthn ?_
  refine ccond rfl (fun c1 => ?_) (fun c1 => ?_)
  · try simp only [q1, q2, q3, q4, q5, q6, q7, q8, q9, q10, q11, q12, q13, q14, q15, q16, q17] at c1
    refine cskip ?_
    refine xthn ?_
    refine cseq ?_
    refine cblock ?_
    refine creg ?_
    refine o (.inl rfl) (L rfl) (mv rfl) rfl ?_
    refine o (.inl rfl) (L rfl) (mv rfl) rfl ?_
    refine o (.inl rfl) (L rfl) (mv rfl) rfl ?_
    refine o (.inl rfl) (L rfl) (mv rfl) rfl ?_
    first | refine o (.inl rfl) (L rfl) (ixl rfl rfl li22 rfl (by first | omega | (simp; omega)) (by first | omega | (simp; omega))) rfl ?_ | refine o (.inl rfl) (L rfl) (ixo rfl rfl rfl li22 rfl (by first | omega | (simp; omega)) (by first | omega | (simp; omega))) rfl ?_
    first | refine o (.inl rfl) (L rfl) (ldbn rfl rfl ti92 (Le rfl)) rfl ?_ | refine o (.inl rfl) (L rfl) (ldrn rfl ti92 (Le rfl)) rfl ?_ | refine o (.inl rfl) (L rfl) (lden rfl rfl (by first | omega | (simp; omega)) ti92) rfl ?_
    refine ocall c_laws_toLeaf _ [] [] (by repeat (first | exact .n | refine .c rfl (.c (.e rfl)) ?_ | refine .c rfl (.c (.o (by decide) rfl)) ?_ | refine .c rfl (.c .n) ?_  | refine .c rfl (.g (by repeat (first | exact .n | refine .c (.e rfl) ?_ | refine .c (.o (by decide) rfl) ?_ | refine .c .n ?_))) ?_)) (by exact hx.2 _ (ix_mem (by omega))) (.inl rfl) (by decide) (by decide) (by repeat (first | exact .n | refine .c rfl rfl ?_)) (Le rfl) (.inl rfl) (L rfl) ?_
    first | refine o (.inl rfl) (L rfl) (ixl rfl rfl li26 rfl (by first | omega | (simp; omega)) (by first | omega | (simp; omega))) rfl ?_ | refine o (.inl rfl) (L rfl) (ixo rfl rfl rfl li26 rfl (by first | omega | (simp; omega)) (by first | omega | (simp; omega))) rfl ?_
    first | refine ostn (.inl rfl) rfl rfl rfl rfl (Le rfl) ti94 ?_ | refine ste (.inl rfl) rfl rfl (by first | omega | (simp; omega)) rfl (.g rfl) ti94 ?_
    refine onil ?_
    refine xbn ?_
    refine xthn ?_
    refine creg ?_
    refine o (.inl rfl) (L rfl) (mv rfl) rfl ?_
    refine o (.inl rfl) (L rfl) (iadd rfl rfl (by first | omega | (simp; omega)) (by first | omega | (simp; omega))) rfl ?_
    refine o (.inl rfl) (L rfl) (asn rfl) rfl ?_
    refine onil ?_
    refine xlq (i + 1) (by omega) (by simp only []; omega) (weak [0] (by decide) (h0 hH) (by repeat (first | exact .n | refine .c rfl (by first | rfl | exact congrArg (Ob.arr false 94 KRLSzSz) (rep_set (by omega) rfl)) ?_)) (by repeat (first | exact .n | refine .c rfl (by first | rfl | (simp; done)) ?_)))
  · try simp only [q1, q2, q3, q4, q5, q6, q7, q8, q9, q10, q11, q12, q13, q14, q15, q16, q17] at c1
    refine cexit ?_
    refine xthe ?_
    refine xle ?_
    refine xbh ?_
    refine xthn ?_
    refine cseq ?_
    refine creg ?_
    refine o (.inl rfl) (L rfl) (mv rfl) rfl ?_
    refine o (.inl rfl) (L rfl) (asn rfl) rfl ?_
    refine onil ?_
    refine xthn ?_
    refine cret ?_
    refine xwk (shr (t := 2) rfl rfl) ?_
    refine retd rfl (.t rfl (.n)) (h0 hH) rfl ?_
    refine re ?_
    have e : i = a.length := by omega
    subst e; simp

end Go.Proofs.YtifpekpmnlcmoaaE
