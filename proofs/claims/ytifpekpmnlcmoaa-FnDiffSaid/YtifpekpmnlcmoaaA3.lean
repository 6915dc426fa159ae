import Derived.Test.YtifpekpmnlcmoaaProg
import Derived.Test.YtifpekpmnlcmoaaE19
import Derived.Test.YtifpekpmnlcmoaaA2
set_option linter.unusedVariables false
set_option linter.unusedSimpArgs false
set_option maxRecDepth 100000
namespace Go.Proofs.YtifpekpmnlcmoaaE
open Go Go.RowKit Go.Shelf Go.Proofs

theorem take_ix {α : Type} {z : α} {xs : List α} {i : Nat} (h : i < xs.length) : xs.take (i + 1) = xs.take i ++ [ix z xs i] := by
  rw [List.take_add_one, List.getElem?_eq_getElem h]
  simp [ix, List.getD_eq_getElem?_getD, h]
theorem take_all {α : Type} {a b : List α} {i : Nat} (h : a.take i = b.take i) (h1 : a.length ≤ i) (h2 : b.length ≤ i) : a = b := by
  rwa [List.take_of_length_le h1, List.take_of_length_le h2] at h

theorem c_laws_eqStringS : Fe Go.Proofs.Try.prog 111 (ι := StrS × StrS) (fun | (a, b) => [.c (.l KS) a, .c (.l KS) b]) (fun _ => []) (fun | (a, b) => True) (fun | (a, b) => (.c .b (decide (a = b)), [])) := by
  refine fnE (n := 26) Go.Proofs.Try.func111 rfl rfl (ent Go.Proofs.Try.func111 (by kernel_rfl) rfl) ?_
  rintro ⟨a, b⟩ hx
  refine ⟨Le rfl, fun w0 S0 H Z hH => ?_⟩
  try simp only [] at hx
  refine cseq ?_
  refine creg ?_
  refine o (.inl rfl) (L rfl) (asn rfl) rfl ?_
  refine onil ?_
  refine xthn ?_
  refine cseq ?_
  refine cseq ?_
  refine creg ?_
  refine o (.inl rfl) (L rfl) (mv rfl) rfl ?_
  first | refine ofact (t := 6) rfl fun hl1 => ?_ | refine ofacts (t := 6) rfl fun hl1 => ?_ | skip
  first | refine o (.inl rfl) (L rfl) (lenl rfl li40) rfl ?_ | refine o (.inl rfl) (L rfl) (leno rfl rfl li40) rfl ?_ | refine o (.inl rfl) (L rfl) (lennl rfl li40) rfl ?_
  refine o (.inl rfl) (L rfl) (mv rfl) rfl ?_
  first | refine ofact (t := 8) rfl fun hl2 => ?_ | refine ofacts (t := 8) rfl fun hl2 => ?_ | skip
  first | refine o (.inl rfl) (L rfl) (lenl rfl li40) rfl ?_ | refine o (.inl rfl) (L rfl) (leno rfl rfl li40) rfl ?_ | refine o (.inl rfl) (L rfl) (lennl rfl li40) rfl ?_
  refine o (.inl rfl) (L rfl) (ibin rfl rfl rfl) rfl ?_
  refine onil ?_
  refine xthn ?_
  refine ccond rfl (fun c1 => ?_) (fun c1 => ?_)
  · try simp only [q1, q2, q3, q4, q5, q6, q7, q8, q9, q10, q11, q12, q13, q14, q15, q16, q17] at c1
    refine cseq ?_
    refine creg ?_
    refine o (.inl rfl) (L rfl) (asn rfl) rfl ?_
    refine onil ?_
    refine xthn ?_
    refine cret ?_
    refine xthr ?_
    refine retd rfl (.t rfl (.n)) (h0 hH) rfl ?_
    refine re ?_
    exact decide_eq_false (fun e => c1 (by rw [e]))
  · try simp only [q1, q2, q3, q4, q5, q6, q7, q8, q9, q10, q11, q12, q13, q14, q15, q16, q17] at c1
    refine cskip ?_
    refine xthn ?_
    refine cseq ?_
    refine cseq ?_
    refine creg ?_
    refine o (.inl rfl) (L rfl) (asn rfl) rfl ?_
    refine onil ?_
    refine xthn ?_
    refine cblock ?_
    refine cloop (ι := Nat) (fun | i => [(0, .c (.l KS) a), (1, .c (.l KS) b), (5, .c (.i .i64) (i : Int))]) (fun | i => []) (fun | i => i ≤ a.length ∧ a.length = b.length ∧ a.take i = b.take i) (fun | i => a.length - i) 0 (by simp; omega) (weak [] (by decide) (h0 hH) (by repeat (first | exact .n | refine .c rfl (by first | rfl) ?_)) (by repeat (first | exact .n | refine .c rfl (by first | rfl | (simp; done)) ?_))) ?_
    rintro i i0
    try simp only [] at i0
    refine cseq ?_
    refine cseq ?_
    refine creg ?_
    refine o (.inl rfl) (L rfl) (mv rfl) rfl ?_
    refine o (.inl rfl) (L rfl) (mv rfl) rfl ?_
    first | refine ofact (t := 12) rfl fun hl3 => ?_ | refine ofacts (t := 12) rfl fun hl3 => ?_ | skip
    first | refine o (.inl rfl) (L rfl) (lenl rfl li40) rfl ?_ | refine o (.inl rfl) (L rfl) (leno rfl rfl li40) rfl ?_ | refine o (.inl rfl) (L rfl) (lennl rfl li40) rfl ?_
    refine o (.inl rfl) (L rfl) (ibin rfl rfl rfl) rfl ?_
    refine onil ?_
    refine xthn ?_
    refine ccond rfl (fun c2 => ?_) (fun c2 => ?_)
    · try simp only [q1, q2, q3, q4, q5, q6, q7, q8, q9, q10, q11, q12, q13, q14, q15, q16, q17] at c2
      refine cskip ?_
      refine xthn ?_
      refine cseq ?_
      refine cblock ?_
      refine cseq ?_
      refine cregd mixed (by kernel_rfl) ?_
      refine qo (.inl rfl) (L rfl) (mv rfl) rfl ?_
      refine qo (.inl rfl) (L rfl) (mv rfl) rfl ?_
      first | refine qo (.inl rfl) (L rfl) (ixl rfl rfl li40 rfl (by first | omega | (simp; omega)) (by first | omega | (simp; omega))) rfl ?_ | refine qo (.inl rfl) (L rfl) (ixo rfl rfl rfl li40 rfl (by first | omega | (simp; omega)) (by first | omega | (simp; omega))) rfl ?_
      first | refine qo (.inl rfl) (L rfl) (ldb rfl rfl rfl ti9) rfl ?_ | refine qo (.inl rfl) (L rfl) (ldr rfl ti9) rfl ?_ | refine qo (.inl rfl) (L rfl) (lde rfl rfl (by first | omega | (simp; omega)) (L rfl) rfl ti9) rfl ?_
      refine qo (.inl rfl) (L rfl) (mv rfl) rfl ?_
      refine qo (.inl rfl) (L rfl) (mv rfl) rfl ?_
      first | refine qo (.inl rfl) (L rfl) (ixl rfl rfl li40 rfl (by first | omega | (simp; omega)) (by first | omega | (simp; omega))) rfl ?_ | refine qo (.inl rfl) (L rfl) (ixo rfl rfl rfl li40 rfl (by first | omega | (simp; omega)) (by first | omega | (simp; omega))) rfl ?_
      first | refine qo (.inl rfl) (L rfl) (ldb rfl rfl rfl ti9) rfl ?_ | refine qo (.inl rfl) (L rfl) (ldr rfl ti9) rfl ?_ | refine qo (.inl rfl) (L rfl) (lde rfl rfl (by first | omega | (simp; omega)) (L rfl) rfl ti9) rfl ?_
      refine qo (.inl rfl) (L rfl) (sbin rfl rfl rfl) rfl ?_
      refine qnil ?_
      refine xthn ?_
      refine ccond rfl (fun c3 => ?_) (fun c3 => ?_)
      · try simp only [q1, q2, q3, q4, q5, q6, q7, q8, q9, q10, q11, q12, q13, q14, q15, q16, q17] at c3
        refine cseq ?_
        refine creg ?_
        refine o (.inl rfl) (L rfl) (asn rfl) rfl ?_
        refine onil ?_
        refine xthn ?_
        refine cret ?_
        refine xbr ?_
        refine xthr ?_
        refine xlr ?_
        refine xbr ?_
        refine xthr ?_
        refine retd rfl (.t rfl (.n)) (h0 hH) rfl ?_
        refine re ?_
        exact decide_eq_false (fun e => c3 (by rw [e]))
      · try simp only [q1, q2, q3, q4, q5, q6, q7, q8, q9, q10, q11, q12, q13, q14, q15, q16, q17] at c3
        refine cskip ?_
        refine xbn ?_
        refine xthn ?_
        refine creg ?_
        refine o (.inl rfl) (L rfl) (mv rfl) rfl ?_
        refine o (.inl rfl) (L rfl) (iadd rfl rfl (by first | omega | (simp; omega)) (by first | omega | (simp; omega))) rfl ?_
        refine o (.inl rfl) (L rfl) (asn rfl) rfl ?_
        refine onil ?_
        refine xlq (i + 1) (by refine ⟨by omega, i0.2.1, ?_⟩; rw [take_ix (z := KS.z) (by omega), take_ix (z := KS.z) (by omega), i0.2.2]; exact congrArg (fun q => List.take i b ++ [q]) (Prod.ext c3 rfl)) (by simp only []; omega) (weak [] (by decide) (h0 hH) (by repeat (first | exact .n | refine .c rfl (by first | rfl) ?_)) (by repeat (first | exact .n | refine .c rfl (by first | rfl | (simp; done)) ?_)))
    · try simp only [q1, q2, q3, q4, q5, q6, q7, q8, q9, q10, q11, q12, q13, q14, q15, q16, q17] at c2
      refine cexit ?_
      refine xthe ?_
      refine xle ?_
      refine xbh ?_
      refine xthn ?_
      refine cseq ?_
      refine creg ?_
      refine o (.inl rfl) (L rfl) (asn rfl) rfl ?_
      refine onil ?_
      refine xthn ?_
      refine cret ?_
      refine retd rfl (.t rfl (.n)) (h0 hH) rfl ?_
      refine re ?_
      exact decide_eq_true (take_all i0.2.2 (by omega) (by omega))

theorem c_laws_eqLeaf : Fe Go.Proofs.Try.prog 63 (ι := KRLSzSz.den × KRLSzSz.den) (fun | (a, b) => [.agg (avs 2 KRLSzSz a), .agg (avs 2 KRLSzSz b)]) (fun _ => []) (fun | (a, b) => True) (fun | (a, b) => (.c .b (decide (a = b)), [])) := by
  refine fnE (n := 16) Go.Proofs.Try.func63 rfl rfl (ent Go.Proofs.Try.func63 (by kernel_rfl) rfl) ?_
  rintro ⟨a, b⟩ hx
  refine ⟨Le rfl, fun w0 S0 H Z hH => ?_⟩
  try simp only [] at hx
  refine cseq ?_
  refine creg ?_
  refine oboxn (.inl rfl) (L rfl) rfl rfl ?_
  refine oboxn (.inl rfl) (L rfl) rfl rfl ?_
  refine o (.inl rfl) (L rfl) (asn rfl) rfl ?_
  refine onil ?_
  refine xthn ?_
  refine cseq ?_
  refine cseq ?_
  refine creg ?_
  first | refine o (.inl rfl) (L rfl) (fab rfl fi94_0) rfl ?_ | refine o (.inl rfl) (L rfl) (fae rfl fi94_0) rfl ?_ | refine o (.inl rfl) (L rfl) (far rfl fi94_0 (Le rfl)) rfl ?_
  first | refine o (.inl rfl) (L rfl) (ldb rfl rfl rfl ti40) rfl ?_ | refine o (.inl rfl) (L rfl) (ldr rfl ti40) rfl ?_ | refine o (.inl rfl) (L rfl) (lde rfl rfl (by first | omega | (simp; omega)) (L rfl) rfl ti40) rfl ?_
  first | refine o (.inl rfl) (L rfl) (fab rfl fi94_0) rfl ?_ | refine o (.inl rfl) (L rfl) (fae rfl fi94_0) rfl ?_ | refine o (.inl rfl) (L rfl) (far rfl fi94_0 (Le rfl)) rfl ?_
  first | refine o (.inl rfl) (L rfl) (ldb rfl rfl rfl ti40) rfl ?_ | refine o (.inl rfl) (L rfl) (ldr rfl ti40) rfl ?_ | refine o (.inl rfl) (L rfl) (lde rfl rfl (by first | omega | (simp; omega)) (L rfl) rfl ti40) rfl ?_
  refine ocall c_laws_eqStringS (_, _) [] [] (by repeat (first | exact .n | refine .c rfl (.c (.e rfl)) ?_ | refine .c rfl (.c (.o (by decide) rfl)) ?_ | refine .c rfl (.c .n) ?_  | refine .c rfl (.g (by repeat (first | exact .n | refine .c (.e rfl) ?_ | refine .c (.o (by decide) rfl) ?_ | refine .c .n ?_))) ?_)) (by first | trivial | (refine ?_; omega) | (simp only []; omega) | (constructor <;> omega) | assumption) (.inl rfl) (by decide) (by decide) (by repeat (first | exact .n | refine .c rfl rfl ?_)) (Le rfl) (.inl rfl) (L rfl) ?_
  refine o (.inl rfl) (L rfl) (unot rfl) rfl ?_
  refine onil ?_
  refine xthn ?_
  refine ccond rfl (fun c1 => ?_) (fun c1 => ?_)
  · try simp only [q1, q2, q3, q4, q5, q6, q7, q8, q9, q10, q11, q12, q13, q14, q15, q16, q17] at c1
    refine cseq ?_
    refine creg ?_
    refine o (.inl rfl) (L rfl) (asn rfl) rfl ?_
    refine onil ?_
    refine xthn ?_
    refine cret ?_
    refine xthr ?_
    refine retd rfl (.t rfl (.n)) (h0 hH) rfl ?_
    refine re ?_
    exact decide_eq_false (fun e => c1 (by rw [e]))
  · try simp only [q1, q2, q3, q4, q5, q6, q7, q8, q9, q10, q11, q12, q13, q14, q15, q16, q17] at c1
    refine cskip ?_
    refine xthn ?_
    refine cseq ?_
    refine cseq ?_
    refine creg ?_
    first | refine o (.inl rfl) (L rfl) (fab rfl fi94_1) rfl ?_ | refine o (.inl rfl) (L rfl) (fae rfl fi94_1) rfl ?_ | refine o (.inl rfl) (L rfl) (far rfl fi94_1 (Le rfl)) rfl ?_
    first | refine o (.inl rfl) (L rfl) (ldb rfl rfl rfl ti9) rfl ?_ | refine o (.inl rfl) (L rfl) (ldr rfl ti9) rfl ?_ | refine o (.inl rfl) (L rfl) (lde rfl rfl (by first | omega | (simp; omega)) (L rfl) rfl ti9) rfl ?_
    first | refine o (.inl rfl) (L rfl) (fab rfl fi94_1) rfl ?_ | refine o (.inl rfl) (L rfl) (fae rfl fi94_1) rfl ?_ | refine o (.inl rfl) (L rfl) (far rfl fi94_1 (Le rfl)) rfl ?_
    first | refine o (.inl rfl) (L rfl) (ldb rfl rfl rfl ti9) rfl ?_ | refine o (.inl rfl) (L rfl) (ldr rfl ti9) rfl ?_ | refine o (.inl rfl) (L rfl) (lde rfl rfl (by first | omega | (simp; omega)) (L rfl) rfl ti9) rfl ?_
    refine o (.inl rfl) (L rfl) (sbin rfl rfl rfl) rfl ?_
    refine onil ?_
    refine xthn ?_
    refine ccond rfl (fun c2 => ?_) (fun c2 => ?_)
    · try simp only [q1, q2, q3, q4, q5, q6, q7, q8, q9, q10, q11, q12, q13, q14, q15, q16, q17] at c2
      refine cseq ?_
      refine creg ?_
      refine o (.inl rfl) (L rfl) (asn rfl) rfl ?_
      refine onil ?_
      refine xthn ?_
      refine cret ?_
      refine xthr ?_
      refine retd rfl (.t rfl (.n)) (h0 hH) rfl ?_
      refine re ?_
      exact decide_eq_false (fun e => c2 (by rw [e]))
    · try simp only [q1, q2, q3, q4, q5, q6, q7, q8, q9, q10, q11, q12, q13, q14, q15, q16, q17] at c2
      refine cskip ?_
      refine xthn ?_
      refine cseq ?_
      refine creg ?_
      refine o (.inl rfl) (L rfl) (asn rfl) rfl ?_
      refine onil ?_
      refine xthn ?_
      refine cret ?_
      refine retd rfl (.t rfl (.n)) (h0 hH) rfl ?_
      refine re ?_
      exact decide_eq_true (Prod.ext c1 (Prod.ext c2 rfl))

theorem c_laws_eqLeafS : Fe Go.Proofs.Try.prog 13 (ι := Leafs × Leafs) (fun | (a, b) => [.c (.l KRLSzSz) a, .c (.l KRLSzSz) b]) (fun _ => []) (fun | (a, b) => True) (fun | (a, b) => (.c .b (decide (a = b)), [])) := by
  refine fnE (n := 27) Go.Proofs.Try.func13 rfl rfl (ent Go.Proofs.Try.func13 (by kernel_rfl) rfl) ?_
  rintro ⟨a, b⟩ hx
  refine ⟨Le rfl, fun w0 S0 H Z hH => ?_⟩
  try simp only [] at hx
  refine cseq ?_
  refine creg ?_
  refine o (.inl rfl) (L rfl) (asn rfl) rfl ?_
  refine onil ?_
  refine xthn ?_
  refine cseq ?_
  refine cseq ?_
  refine creg ?_
  refine o (.inl rfl) (L rfl) (mv rfl) rfl ?_
  first | refine ofact (t := 6) rfl fun hl1 => ?_ | refine ofacts (t := 6) rfl fun hl1 => ?_ | skip
  first | refine o (.inl rfl) (L rfl) (lenl rfl li26) rfl ?_ | refine o (.inl rfl) (L rfl) (leno rfl rfl li26) rfl ?_ | refine o (.inl rfl) (L rfl) (lennl rfl li26) rfl ?_
  refine o (.inl rfl) (L rfl) (mv rfl) rfl ?_
  first | refine ofact (t := 8) rfl fun hl2 => ?_ | refine ofacts (t := 8) rfl fun hl2 => ?_ | skip
  first | refine o (.inl rfl) (L rfl) (lenl rfl li26) rfl ?_ | refine o (.inl rfl) (L rfl) (leno rfl rfl li26) rfl ?_ | refine o (.inl rfl) (L rfl) (lennl rfl li26) rfl ?_
  refine o (.inl rfl) (L rfl) (ibin rfl rfl rfl) rfl ?_
  refine onil ?_
  refine xthn ?_
  refine ccond rfl (fun c1 => ?_) (fun c1 => ?_)
  · try simp only [q1, q2, q3, q4, q5, q6, q7, q8, q9, q10, q11, q12, q13, q14, q15, q16, q17] at c1
    refine cseq ?_
    refine creg ?_
    refine o (.inl rfl) (L rfl) (asn rfl) rfl ?_
    refine onil ?_
    refine xthn ?_
    refine cret ?_
    refine xthr ?_
    refine retd rfl (.t rfl (.n)) (h0 hH) rfl ?_
    refine re ?_
    exact decide_eq_false (fun e => c1 (by rw [e]))
  · try simp only [q1, q2, q3, q4, q5, q6, q7, q8, q9, q10, q11, q12, q13, q14, q15, q16, q17] at c1
    refine cskip ?_
    refine xthn ?_
    refine cseq ?_
    refine cseq ?_
    refine creg ?_
    refine o (.inl rfl) (L rfl) (asn rfl) rfl ?_
    refine onil ?_
    refine xthn ?_
    refine cblock ?_
    refine cloop (ι := Nat) (fun | i => [(0, .c (.l KRLSzSz) a), (1, .c (.l KRLSzSz) b), (5, .c (.i .i64) (i : Int))]) (fun | i => []) (fun | i => i ≤ a.length ∧ a.length = b.length ∧ a.take i = b.take i) (fun | i => a.length - i) 0 (by simp; omega) (weak [] (by decide) (h0 hH) (by repeat (first | exact .n | refine .c rfl (by first | rfl) ?_)) (by repeat (first | exact .n | refine .c rfl (by first | rfl | (simp; done)) ?_))) ?_
    rintro i i0
    try simp only [] at i0
    refine cseq ?_
    refine cseq ?_
    refine creg ?_
    refine o (.inl rfl) (L rfl) (mv rfl) rfl ?_
    refine o (.inl rfl) (L rfl) (mv rfl) rfl ?_
    first | refine ofact (t := 12) rfl fun hl3 => ?_ | refine ofacts (t := 12) rfl fun hl3 => ?_ | skip
    first | refine o (.inl rfl) (L rfl) (lenl rfl li26) rfl ?_ | refine o (.inl rfl) (L rfl) (leno rfl rfl li26) rfl ?_ | refine o (.inl rfl) (L rfl) (lennl rfl li26) rfl ?_
    refine o (.inl rfl) (L rfl) (ibin rfl rfl rfl) rfl ?_
    refine onil ?_
    refine xthn ?_
    refine ccond rfl (fun c2 => ?_) (fun c2 => ?_)
    · try simp only [q1, q2, q3, q4, q5, q6, q7, q8, q9, q10, q11, q12, q13, q14, q15, q16, q17] at c2
      refine cskip ?_
      refine xthn ?_
      refine cseq ?_
      refine cblock ?_
      refine cseq ?_
      refine cregd mixed (by kernel_rfl) ?_
      refine qo (.inl rfl) (L rfl) (mv rfl) rfl ?_
      refine qo (.inl rfl) (L rfl) (mv rfl) rfl ?_
      first | refine qo (.inl rfl) (L rfl) (ixl rfl rfl li26 rfl (by first | omega | (simp; omega)) (by first | omega | (simp; omega))) rfl ?_ | refine qo (.inl rfl) (L rfl) (ixo rfl rfl rfl li26 rfl (by first | omega | (simp; omega)) (by first | omega | (simp; omega))) rfl ?_
      first | refine qo (.inl rfl) (L rfl) (ldbn rfl rfl ti94 (Le rfl)) rfl ?_ | refine qo (.inl rfl) (L rfl) (ldrn rfl ti94 (Le rfl)) rfl ?_ | refine qo (.inl rfl) (L rfl) (lden rfl rfl (by first | omega | (simp; omega)) ti94) rfl ?_
      refine qo (.inl rfl) (L rfl) (mv rfl) rfl ?_
      refine qo (.inl rfl) (L rfl) (mv rfl) rfl ?_
      first | refine qo (.inl rfl) (L rfl) (ixl rfl rfl li26 rfl (by first | omega | (simp; omega)) (by first | omega | (simp; omega))) rfl ?_ | refine qo (.inl rfl) (L rfl) (ixo rfl rfl rfl li26 rfl (by first | omega | (simp; omega)) (by first | omega | (simp; omega))) rfl ?_
      first | refine qo (.inl rfl) (L rfl) (ldbn rfl rfl ti94 (Le rfl)) rfl ?_ | refine qo (.inl rfl) (L rfl) (ldrn rfl ti94 (Le rfl)) rfl ?_ | refine qo (.inl rfl) (L rfl) (lden rfl rfl (by first | omega | (simp; omega)) ti94) rfl ?_
      refine qcall c_laws_eqLeaf (_, _) [] (by repeat (first | exact .n | refine .c rfl (.c (.e rfl)) ?_ | refine .c rfl (.c (.o (by decide) rfl)) ?_ | refine .c rfl (.c .n) ?_  | refine .c rfl (.g (by repeat (first | exact .n | refine .c (.e rfl) ?_ | refine .c (.o (by decide) rfl) ?_ | refine .c .n ?_))) ?_)) (by first | trivial | (refine ?_; omega) | (simp only []; omega) | (constructor <;> omega) | assumption) rfl rfl (.inl rfl) rfl (L rfl) ?_
      refine qo (.inl rfl) (L rfl) (unot rfl) rfl ?_
      refine qnil ?_
      refine xthn ?_
      refine ccond rfl (fun c3 => ?_) (fun c3 => ?_)
      · try simp only [q1, q2, q3, q4, q5, q6, q7, q8, q9, q10, q11, q12, q13, q14, q15, q16, q17] at c3
        refine cseq ?_
        refine creg ?_
        refine o (.inl rfl) (L rfl) (asn rfl) rfl ?_
        refine onil ?_
        refine xthn ?_
        refine cret ?_
        refine xbr ?_
        refine xthr ?_
        refine xlr ?_
        refine xbr ?_
        refine xthr ?_
        refine retd rfl (.t rfl (.n)) (h0 hH) rfl ?_
        refine re ?_
        exact decide_eq_false (fun e => c3 (by rw [e]))
      · try simp only [q1, q2, q3, q4, q5, q6, q7, q8, q9, q10, q11, q12, q13, q14, q15, q16, q17] at c3
        refine cskip ?_
        refine xbn ?_
        refine xthn ?_
        refine creg ?_
        refine o (.inl rfl) (L rfl) (mv rfl) rfl ?_
        refine o (.inl rfl) (L rfl) (iadd rfl rfl (by first | omega | (simp; omega)) (by first | omega | (simp; omega))) rfl ?_
        refine o (.inl rfl) (L rfl) (asn rfl) rfl ?_
        refine onil ?_
        refine xlq (i + 1) (by refine ⟨by omega, i0.2.1, ?_⟩; rw [take_ix (z := KRLSzSz.z) (by omega), take_ix (z := KRLSzSz.z) (by omega), i0.2.2, c3]) (by simp only []; omega) (weak [] (by decide) (h0 hH) (by repeat (first | exact .n | refine .c rfl (by first | rfl) ?_)) (by repeat (first | exact .n | refine .c rfl (by first | rfl | (simp; done)) ?_)))
    · try simp only [q1, q2, q3, q4, q5, q6, q7, q8, q9, q10, q11, q12, q13, q14, q15, q16, q17] at c2
      refine cexit ?_
      refine xthe ?_
      refine xle ?_
      refine xbh ?_
      refine xthn ?_
      refine cseq ?_
      refine creg ?_
      refine o (.inl rfl) (L rfl) (asn rfl) rfl ?_
      refine onil ?_
      refine xthn ?_
      refine cret ?_
      refine retd rfl (.t rfl (.n)) (h0 hH) rfl ?_
      refine re ?_
      exact decide_eq_true (take_all i0.2.2 (by omega) (by omega))

end Go.Proofs.YtifpekpmnlcmoaaE
