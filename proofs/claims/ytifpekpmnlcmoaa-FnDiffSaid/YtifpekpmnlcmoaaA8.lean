import Derived.Test.YtifpekpmnlcmoaaProg
import Derived.Test.YtifpekpmnlcmoaaE19
import Derived.Test.YtifpekpmnlcmoaaA6
import Derived.Test.YtifpekpmnlcmoaaA7
set_option linter.unusedVariables false
set_option linter.unusedSimpArgs false
set_option maxRecDepth 100000
namespace Go.Proofs.YtifpekpmnlcmoaaE
open Go Go.RowKit Go.Shelf Go.Proofs

def cfgT (l : Leafs) : List UInt8 × Bool := if good l = true then (if (txt [] l).length > 1000 then ([], false) else (txt [] l, true)) else ([], false)

theorem c_impl_GoodConfig : Fe Go.Proofs.Try.prog 29 (ι := Leafs) (fun l => [.c (.l KRLSzSz) l]) (fun _ => []) (fun l => True) (fun l => (.c .b (good l), [])) := by
  refine fnE (n := 53) Go.Proofs.Try.func29 rfl rfl (ent Go.Proofs.Try.func29 (by kernel_rfl) rfl) ?_
  rintro l hx
  refine ⟨Le rfl, fun w0 S0 H Z hH => ?_⟩
  try simp only [] at hx
  refine cseq ?_
  refine creg ?_
  refine o (.inl rfl) (L rfl) (asn rfl) rfl ?_
  refine onil ?_
  refine xthn ?_
  refine cseq ?_
  refine cseq ?_
  refine creg ?_
  refine o (.inl rfl) (L rfl) (mv rfl) rfl ?_
  first | refine ofact (t := 5) rfl fun hl1 => ?_ | refine ofacts (t := 5) rfl fun hl1 => ?_ | skip
  first | refine o (.inl rfl) (L rfl) (lenl rfl li26) rfl ?_ | refine o (.inl rfl) (L rfl) (leno rfl rfl li26) rfl ?_ | refine o (.inl rfl) (L rfl) (lennl rfl li26) rfl ?_
  refine o (.inl rfl) (L rfl) (mv rfl) rfl ?_
  refine onil ?_
  refine xthn ?_
  refine cblock ?_
  refine cloop (ι := Nat) (fun | i => [(0, .c (.l KRLSzSz) l), (5, .c (.l KRLSzSz) l), (6, .c (.i .i64) (l.length : Int)), (7, .c (.i .i64) (i : Int))]) (fun | i => []) (fun | i => i ≤ l.length ∧ (List.range i).all (stOK l) = true) (fun | i => l.length - i) 0 (by simp) (weak [] (by decide) (h0 hH) (by repeat (first | exact .n | refine .c rfl (by first | rfl) ?_)) (by repeat (first | exact .n | refine .c rfl (by first | rfl | (simp; done)) ?_))) ?_
  rintro i i0
  try simp only [] at i0
  refine cseq ?_
  refine creg ?_
  refine o (.inl rfl) (L rfl) (ibin rfl rfl rfl) rfl ?_
  refine onil ?_
  refine xthn ?_
  refine cseq ?_
  refine ccond rfl (fun c1 => ?_) (fun c1 => ?_)
  · try simp only [q1, q2, q3, q4, q5, q6, q7, q8, q9, q10, q11, q12, q13, q14, q15, q16, q17] at c1
    refine cskip ?_
    refine xthn ?_
    refine cseq ?_
    refine cblock ?_
    refine cseq ?_
    refine creg ?_
    refine o (.inl rfl) (L rfl) (mv rfl) rfl ?_
    first | refine o (.inl rfl) (L rfl) (ixl rfl rfl li26 rfl (by first | omega | (simp; omega)) (by first | omega | (simp; omega))) rfl ?_ | refine o (.inl rfl) (L rfl) (ixo rfl rfl rfl li26 rfl (by first | omega | (simp; omega)) (by first | omega | (simp; omega))) rfl ?_
    first | refine o (.inl rfl) (L rfl) (ldbn rfl rfl ti94 (Le rfl)) rfl ?_ | refine o (.inl rfl) (L rfl) (ldrn rfl ti94 (Le rfl)) rfl ?_ | refine o (.inl rfl) (L rfl) (lden rfl rfl (by first | omega | (simp; omega)) ti94) rfl ?_
    refine oalloc (.inl rfl) (L rfl) zi94 ?_
    refine o (.inl rfl) (L rfl) (asn rfl) rfl ?_
    first | refine ostn (.inl rfl) rfl rfl rfl rfl (Le rfl) ti94 ?_ | refine ste (.inl rfl) rfl rfl (by first | omega | (simp; omega)) rfl (.g rfl) ti94 ?_
    refine onil ?_
    refine xthn ?_
    refine cseq ?_
    refine cregd mixed (by kernel_rfl) ?_
    first | refine qo (.inl rfl) (L rfl) (fab rfl fi94_0) rfl ?_ | refine qo (.inl rfl) (L rfl) (fae rfl fi94_0) rfl ?_ | refine qo (.inl rfl) (L rfl) (far rfl fi94_0 (Le rfl)) rfl ?_
    first | refine qo (.inl rfl) (L rfl) (ldb rfl rfl rfl ti40) rfl ?_ | refine qo (.inl rfl) (L rfl) (ldr rfl ti40) rfl ?_ | refine qo (.inl rfl) (L rfl) (lde rfl rfl (by first | omega | (simp; omega)) (L rfl) rfl ti40) rfl ?_
    refine qcall c_impl_areWords _ [] (by repeat (first | exact .n | refine .c rfl (.c (.e rfl)) ?_ | refine .c rfl (.c (.o (by decide) rfl)) ?_ | refine .c rfl (.c .n) ?_  | refine .c rfl (.g (by repeat (first | exact .n | refine .c (.e rfl) ?_ | refine .c (.o (by decide) rfl) ?_ | refine .c .n ?_))) ?_)) (by first | trivial | (refine ?_; omega) | (simp only []; omega) | (constructor <;> omega) | assumption) rfl rfl (.inl rfl) rfl (L rfl) ?_
    refine qo (.inl rfl) (L rfl) (unot rfl) rfl ?_
    refine qo (.inl rfl) (L rfl) (mv rfl) rfl ?_
    refine qcase (t := 16) rfl (fun c2 => ?_) (fun c2 => ?_)
    · try simp only [q1, q2, q3, q4, q5, q6, q7, q8, q9, q10, q11, q12, q13, q14, q15, q16, q17] at c2
      refine qskip rfl rfl rfl rfl rfl (L rfl) ?_
      refine qskip rfl rfl rfl rfl rfl (L rfl) ?_
      refine qskip rfl rfl rfl rfl rfl (L rfl) ?_
      refine qskip rfl rfl rfl rfl rfl (L rfl) ?_
      refine qo (.inl rfl) (L rfl) (pickT rfl rfl) rfl ?_
      refine qo (.inl rfl) (L rfl) (mv rfl) rfl ?_
      refine qskip rfl rfl rfl rfl rfl (L rfl) ?_
      refine qskip rfl rfl rfl rfl rfl (L rfl) ?_
      refine qskip rfl rfl rfl rfl rfl (L rfl) ?_
      refine qskipu rfl rfl rfl rfl (L rfl) ?_
      refine qskipu rfl rfl rfl rfl (L rfl) ?_
      refine qskipu rfl rfl rfl rfl (L rfl) ?_
      refine qskipu rfl rfl rfl rfl (L rfl) ?_
      refine qskipu rfl rfl rfl rfl (L rfl) ?_
      refine qskipu rfl rfl rfl rfl (L rfl) ?_
      refine qskipu rfl rfl rfl rfl (L rfl) ?_
      refine qskipu rfl rfl rfl rfl (L rfl) ?_
      refine qskipu rfl rfl rfl rfl (L rfl) ?_
      refine qskipu rfl rfl rfl rfl (L rfl) ?_
      refine qskipu rfl rfl rfl rfl (L rfl) ?_
      refine qskipu rfl rfl rfl rfl (L rfl) ?_
      refine qskipu rfl rfl rfl rfl (L rfl) ?_
      refine qskipu rfl rfl rfl rfl (L rfl) ?_
      refine qskipu rfl rfl rfl rfl (L rfl) ?_
      refine qskipu rfl rfl rfl rfl (L rfl) ?_
      refine qskipu rfl rfl rfl rfl (L rfl) ?_
      refine qskipu rfl rfl rfl rfl (L rfl) ?_
      refine qskipu rfl rfl rfl rfl (L rfl) ?_
      refine qskipu rfl rfl rfl rfl (L rfl) ?_
      refine qskipu rfl rfl rfl rfl (L rfl) ?_
      refine qskip rfl rfl rfl rfl rfl (L rfl) ?_
      refine qo (.inl rfl) (L rfl) (pickT rfl rfl) rfl ?_
      refine qnil ?_
      refine xthn ?_
      refine ccT rfl ?_
      refine cseq ?_
      refine creg ?_
      refine o (.inl rfl) (L rfl) (asn rfl) rfl ?_
      refine onil ?_
      refine xthn ?_
      refine cret ?_
      refine xbr ?_
      refine xthr ?_
      refine xlr ?_
      refine xbr ?_
      refine xthr ?_
      refine retd rfl (.t rfl (.n)) (h0 hH) rfl ?_
      refine re ?_
      exact good_no (i := i) (by omega) (by simp [stOK, c2])
    · try simp only [q1, q2, q3, q4, q5, q6, q7, q8, q9, q10, q11, q12, q13, q14, q15, q16, q17] at c2
      first | refine qo (.inr ⟨_, _, _, rfl, rfl, rfl⟩) (L rfl) (fab rfl fi94_1) rfl ?_ | refine qo (.inr ⟨_, _, _, rfl, rfl, rfl⟩) (L rfl) (fae rfl fi94_1) rfl ?_ | refine qo (.inr ⟨_, _, _, rfl, rfl, rfl⟩) (L rfl) (far rfl fi94_1 (Le rfl)) rfl ?_
      first | refine qo (.inr ⟨_, _, _, rfl, rfl, rfl⟩) (L rfl) (ldb rfl rfl rfl ti9) rfl ?_ | refine qo (.inr ⟨_, _, _, rfl, rfl, rfl⟩) (L rfl) (ldr rfl ti9) rfl ?_ | refine qo (.inr ⟨_, _, _, rfl, rfl, rfl⟩) (L rfl) (lde rfl rfl (by first | omega | (simp; omega)) (L rfl) rfl ti9) rfl ?_
      refine qcall c_impl_isWord _ [] (by repeat (first | exact .n | refine .c rfl (.c (.e rfl)) ?_ | refine .c rfl (.c (.o (by decide) rfl)) ?_ | refine .c rfl (.c .n) ?_  | refine .c rfl (.g (by repeat (first | exact .n | refine .c (.e rfl) ?_ | refine .c (.o (by decide) rfl) ?_ | refine .c .n ?_))) ?_)) (by first | trivial | (refine ?_; omega) | (simp only []; omega) | (constructor <;> omega) | assumption) rfl rfl (.inr ⟨_, _, _, rfl, rfl, rfl⟩) rfl (L rfl) ?_
      refine qo (.inr ⟨_, _, _, rfl, rfl, rfl⟩) (L rfl) (unot rfl) rfl ?_
      refine qo (.inl rfl) (L rfl) (pickF rfl rfl) rfl ?_
      refine qo (.inl rfl) (L rfl) (mv rfl) rfl ?_
      refine qcase (t := 22) rfl (fun c3 => ?_) (fun c3 => ?_)
      · try simp only [q1, q2, q3, q4, q5, q6, q7, q8, q9, q10, q11, q12, q13, q14, q15, q16, q17] at c3
        refine qskip rfl rfl rfl rfl rfl (L rfl) ?_
        refine qskip rfl rfl rfl rfl rfl (L rfl) ?_
        refine qskip rfl rfl rfl rfl rfl (L rfl) ?_
        refine qskipu rfl rfl rfl rfl (L rfl) ?_
        refine qskipu rfl rfl rfl rfl (L rfl) ?_
        refine qskipu rfl rfl rfl rfl (L rfl) ?_
        refine qskipu rfl rfl rfl rfl (L rfl) ?_
        refine qskipu rfl rfl rfl rfl (L rfl) ?_
        refine qskipu rfl rfl rfl rfl (L rfl) ?_
        refine qskipu rfl rfl rfl rfl (L rfl) ?_
        refine qskipu rfl rfl rfl rfl (L rfl) ?_
        refine qskipu rfl rfl rfl rfl (L rfl) ?_
        refine qskipu rfl rfl rfl rfl (L rfl) ?_
        refine qskipu rfl rfl rfl rfl (L rfl) ?_
        refine qskipu rfl rfl rfl rfl (L rfl) ?_
        refine qskipu rfl rfl rfl rfl (L rfl) ?_
        refine qskipu rfl rfl rfl rfl (L rfl) ?_
        refine qskipu rfl rfl rfl rfl (L rfl) ?_
        refine qskipu rfl rfl rfl rfl (L rfl) ?_
        refine qskipu rfl rfl rfl rfl (L rfl) ?_
        refine qskipu rfl rfl rfl rfl (L rfl) ?_
        refine qskipu rfl rfl rfl rfl (L rfl) ?_
        refine qskipu rfl rfl rfl rfl (L rfl) ?_
        refine qskipu rfl rfl rfl rfl (L rfl) ?_
        refine qskip rfl rfl rfl rfl rfl (L rfl) ?_
        refine qo (.inl rfl) (L rfl) (pickT rfl rfl) rfl ?_
        refine qnil ?_
        refine xthn ?_
        refine ccT rfl ?_
        refine cseq ?_
        refine creg ?_
        refine o (.inl rfl) (L rfl) (asn rfl) rfl ?_
        refine onil ?_
        refine xthn ?_
        refine cret ?_
        refine xbr ?_
        refine xthr ?_
        refine xlr ?_
        refine xbr ?_
        refine xthr ?_
        refine retd rfl (.t rfl (.n)) (h0 hH) rfl ?_
        refine re ?_
        exact good_no (i := i) (by omega) (by simp [stOK, c3])
      · try simp only [q1, q2, q3, q4, q5, q6, q7, q8, q9, q10, q11, q12, q13, q14, q15, q16, q17] at c3
        refine qo (.inr ⟨_, _, _, rfl, rfl, rfl⟩) (L rfl) (mv rfl) rfl ?_
        refine qo (.inr ⟨_, _, _, rfl, rfl, rfl⟩) (L rfl) (ibin rfl rfl rfl) rfl ?_
        refine qo (.inr ⟨_, _, _, rfl, rfl, rfl⟩) (L rfl) (mv rfl) rfl ?_
        refine qcase (t := 25) rfl (fun c4 => ?_) (fun c4 => ?_)
        · try simp only [q1, q2, q3, q4, q5, q6, q7, q8, q9, q10, q11, q12, q13, q14, q15, q16, q17] at c4
          refine qo (.inr ⟨_, _, _, rfl, rfl, rfl⟩) (L rfl) (mv rfl) rfl ?_
          refine qo (.inr ⟨_, _, _, rfl, rfl, rfl⟩) (L rfl) (mv rfl) rfl ?_
          refine qo (.inr ⟨_, _, _, rfl, rfl, rfl⟩) (L rfl) (isub rfl rfl (by first | omega | (simp; omega)) (by first | omega | (simp; omega))) rfl ?_
          first | refine qo (.inr ⟨_, _, _, rfl, rfl, rfl⟩) (L rfl) (ixl rfl rfl li26 rfl (by first | omega | (simp; omega)) (by first | omega | (simp; omega))) rfl ?_ | refine qo (.inr ⟨_, _, _, rfl, rfl, rfl⟩) (L rfl) (ixo rfl rfl rfl li26 rfl (by first | omega | (simp; omega)) (by first | omega | (simp; omega))) rfl ?_
          first | refine qo (.inr ⟨_, _, _, rfl, rfl, rfl⟩) (L rfl) (fab rfl fi94_0) rfl ?_ | refine qo (.inr ⟨_, _, _, rfl, rfl, rfl⟩) (L rfl) (fae rfl fi94_0) rfl ?_ | refine qo (.inr ⟨_, _, _, rfl, rfl, rfl⟩) (L rfl) (far rfl fi94_0 (Le rfl)) rfl ?_
          first | refine qo (.inr ⟨_, _, _, rfl, rfl, rfl⟩) (L rfl) (ldb rfl rfl rfl ti40) rfl ?_ | refine qo (.inr ⟨_, _, _, rfl, rfl, rfl⟩) (L rfl) (ldr rfl ti40) rfl ?_ | refine qo (.inr ⟨_, _, _, rfl, rfl, rfl⟩) (L rfl) (lde rfl rfl (by first | omega | (simp; omega)) (L rfl) rfl ti40) rfl ?_
          first | refine qo (.inr ⟨_, _, _, rfl, rfl, rfl⟩) (L rfl) (fab rfl fi94_0) rfl ?_ | refine qo (.inr ⟨_, _, _, rfl, rfl, rfl⟩) (L rfl) (fae rfl fi94_0) rfl ?_ | refine qo (.inr ⟨_, _, _, rfl, rfl, rfl⟩) (L rfl) (far rfl fi94_0 (Le rfl)) rfl ?_
          first | refine qo (.inr ⟨_, _, _, rfl, rfl, rfl⟩) (L rfl) (ldb rfl rfl rfl ti40) rfl ?_ | refine qo (.inr ⟨_, _, _, rfl, rfl, rfl⟩) (L rfl) (ldr rfl ti40) rfl ?_ | refine qo (.inr ⟨_, _, _, rfl, rfl, rfl⟩) (L rfl) (lde rfl rfl (by first | omega | (simp; omega)) (L rfl) rfl ti40) rfl ?_
          refine qcall c_slices_Compare_string_string (_, _) [] (by repeat (first | exact .n | refine .c rfl (.c (.e rfl)) ?_ | refine .c rfl (.c (.o (by decide) rfl)) ?_ | refine .c rfl (.c .n) ?_  | refine .c rfl (.g (by repeat (first | exact .n | refine .c (.e rfl) ?_ | refine .c (.o (by decide) rfl) ?_ | refine .c .n ?_))) ?_)) (by first | trivial | (refine ?_; omega) | (simp only []; omega) | (constructor <;> omega) | assumption) rfl rfl (.inr ⟨_, _, _, rfl, rfl, rfl⟩) rfl (L rfl) ?_
          refine qo (.inr ⟨_, _, _, rfl, rfl, rfl⟩) (L rfl) (ibin rfl rfl rfl) rfl ?_
          refine qo (.inr ⟨_, _, _, rfl, rfl, rfl⟩) (L rfl) (mv rfl) rfl ?_
          refine qcase (t := 36) rfl (fun c5 => ?_) (fun c5 => ?_)
          · try simp only [q1, q2, q3, q4, q5, q6, q7, q8, q9, q10, q11, q12, q13, q14, q15, q16, q17] at c5
            refine qskip rfl rfl rfl rfl rfl (L rfl) ?_
            refine qskip rfl rfl rfl rfl rfl (L rfl) ?_
            refine qskip rfl rfl rfl rfl rfl (L rfl) ?_
            refine qskip rfl rfl rfl rfl rfl (L rfl) ?_
            refine qskip rfl rfl rfl rfl rfl (L rfl) ?_
            refine qskip rfl rfl rfl rfl rfl (L rfl) ?_
            refine qskip rfl rfl rfl rfl rfl (L rfl) ?_
            refine qskip rfl rfl rfl rfl rfl (L rfl) ?_
            refine qskip rfl rfl rfl rfl rfl (L rfl) ?_
            refine qo (.inr ⟨_, _, _, rfl, rfl, rfl⟩) (L rfl) (pickT rfl rfl) rfl ?_
            refine qo (.inr ⟨_, _, _, rfl, rfl, rfl⟩) (L rfl) (pickT rfl rfl) rfl ?_
            refine qo (.inl rfl) (L rfl) (pickF rfl rfl) rfl ?_
            refine qnil ?_
            refine xthn ?_
            refine ccT rfl ?_
            refine cseq ?_
            refine creg ?_
            refine o (.inl rfl) (L rfl) (asn rfl) rfl ?_
            refine onil ?_
            refine xthn ?_
            refine cret ?_
            refine xbr ?_
            refine xthr ?_
            refine xlr ?_
            refine xbr ?_
            refine xthr ?_
            refine retd rfl (.t rfl (.n)) (h0 hH) rfl ?_
            refine re ?_
            have c7 : 0 ≤ cmpS (ix KRLSzSz.z l ((i : Int) - 1)).1 (ix KRLSzSz.z l (i : Int)).1 := c5
            exact good_no (i := i) (by omega) (by simp [stOK, less_eq]; omega)
          · try simp only [q1, q2, q3, q4, q5, q6, q7, q8, q9, q10, q11, q12, q13, q14, q15, q16, q17] at c5
            refine qo (.inr ⟨_, _, _, rfl, rfl, rfl⟩) (L rfl) (mv rfl) rfl ?_
            refine qo (.inr ⟨_, _, _, rfl, rfl, rfl⟩) (L rfl) (mv rfl) rfl ?_
            refine qo (.inr ⟨_, _, _, rfl, rfl, rfl⟩) (L rfl) (isub rfl rfl (by first | omega | (simp; omega)) (by first | omega | (simp; omega))) rfl ?_
            first | refine qo (.inr ⟨_, _, _, rfl, rfl, rfl⟩) (L rfl) (ixl rfl rfl li26 rfl (by first | omega | (simp; omega)) (by first | omega | (simp; omega))) rfl ?_ | refine qo (.inr ⟨_, _, _, rfl, rfl, rfl⟩) (L rfl) (ixo rfl rfl rfl li26 rfl (by first | omega | (simp; omega)) (by first | omega | (simp; omega))) rfl ?_
            first | refine qo (.inr ⟨_, _, _, rfl, rfl, rfl⟩) (L rfl) (fab rfl fi94_0) rfl ?_ | refine qo (.inr ⟨_, _, _, rfl, rfl, rfl⟩) (L rfl) (fae rfl fi94_0) rfl ?_ | refine qo (.inr ⟨_, _, _, rfl, rfl, rfl⟩) (L rfl) (far rfl fi94_0 (Le rfl)) rfl ?_
            first | refine qo (.inr ⟨_, _, _, rfl, rfl, rfl⟩) (L rfl) (ldb rfl rfl rfl ti40) rfl ?_ | refine qo (.inr ⟨_, _, _, rfl, rfl, rfl⟩) (L rfl) (ldr rfl ti40) rfl ?_ | refine qo (.inr ⟨_, _, _, rfl, rfl, rfl⟩) (L rfl) (lde rfl rfl (by first | omega | (simp; omega)) (L rfl) rfl ti40) rfl ?_
            first | refine qo (.inr ⟨_, _, _, rfl, rfl, rfl⟩) (L rfl) (fab rfl fi94_0) rfl ?_ | refine qo (.inr ⟨_, _, _, rfl, rfl, rfl⟩) (L rfl) (fae rfl fi94_0) rfl ?_ | refine qo (.inr ⟨_, _, _, rfl, rfl, rfl⟩) (L rfl) (far rfl fi94_0 (Le rfl)) rfl ?_
            first | refine qo (.inr ⟨_, _, _, rfl, rfl, rfl⟩) (L rfl) (ldb rfl rfl rfl ti40) rfl ?_ | refine qo (.inr ⟨_, _, _, rfl, rfl, rfl⟩) (L rfl) (ldr rfl ti40) rfl ?_ | refine qo (.inr ⟨_, _, _, rfl, rfl, rfl⟩) (L rfl) (lde rfl rfl (by first | omega | (simp; omega)) (L rfl) rfl ti40) rfl ?_
            refine qcall c_impl_begins (_, _) [] (by repeat (first | exact .n | refine .c rfl (.c (.e rfl)) ?_ | refine .c rfl (.c (.o (by decide) rfl)) ?_ | refine .c rfl (.c .n) ?_  | refine .c rfl (.g (by repeat (first | exact .n | refine .c (.e rfl) ?_ | refine .c (.o (by decide) rfl) ?_ | refine .c .n ?_))) ?_)) (by first | trivial | (refine ?_; omega) | (simp only []; omega) | (constructor <;> omega) | assumption) rfl rfl (.inr ⟨_, _, _, rfl, rfl, rfl⟩) rfl (L rfl) ?_
            refine qo (.inr ⟨_, _, _, rfl, rfl, rfl⟩) (L rfl) (pickF rfl rfl) rfl ?_
            refine qo (.inr ⟨_, _, _, rfl, rfl, rfl⟩) (L rfl) (pickT rfl rfl) rfl ?_
            refine qo (.inl rfl) (L rfl) (pickF rfl rfl) rfl ?_
            refine qnil ?_
            refine xthn ?_
            refine ccond rfl (fun c6 => ?_) (fun c6 => ?_)
            · try simp only [q1, q2, q3, q4, q5, q6, q7, q8, q9, q10, q11, q12, q13, q14, q15, q16, q17] at c6
              refine cseq ?_
              refine creg ?_
              refine o (.inl rfl) (L rfl) (asn rfl) rfl ?_
              refine onil ?_
              refine xthn ?_
              refine cret ?_
              refine xbr ?_
              refine xthr ?_
              refine xlr ?_
              refine xbr ?_
              refine xthr ?_
              refine retd rfl (.t rfl (.n)) (h0 hH) rfl ?_
              refine re ?_
              exact good_no (i := i) (by omega) (by simp [stOK, c6]; omega)
            · try simp only [q1, q2, q3, q4, q5, q6, q7, q8, q9, q10, q11, q12, q13, q14, q15, q16, q17] at c6
              refine cskip ?_
              refine xbn ?_
              refine xthn ?_
              refine creg ?_
              refine o (.inl rfl) (L rfl) (iadd rfl rfl (by first | omega | (simp; omega)) (by first | omega | (simp; omega))) rfl ?_
              refine o (.inl rfl) (L rfl) (mv rfl) rfl ?_
              refine onil ?_
              refine xlq (i + 1) (by refine ⟨by omega, range_step i0.2 ?_⟩; simp [stOK, c2, c3, less_eq, c5, c6]) (by simp only []; omega) (weak [] (by decide) (h0 hH) (by repeat (first | exact .n | refine .c rfl (by first | rfl) ?_)) (by repeat (first | exact .n | refine .c rfl (by first | rfl | (simp; done)) ?_)))
        · try simp only [q1, q2, q3, q4, q5, q6, q7, q8, q9, q10, q11, q12, q13, q14, q15, q16, q17] at c4
          refine qskip rfl rfl rfl rfl rfl (L rfl) ?_
          refine qskip rfl rfl rfl rfl rfl (L rfl) ?_
          refine qskip rfl rfl rfl rfl rfl (L rfl) ?_
          refine qskip rfl rfl rfl rfl rfl (L rfl) ?_
          refine qskip rfl rfl rfl rfl rfl (L rfl) ?_
          refine qskip rfl rfl rfl rfl rfl (L rfl) ?_
          refine qskip rfl rfl rfl rfl rfl (L rfl) ?_
          refine qskip rfl rfl rfl rfl rfl (L rfl) ?_
          refine qskip rfl rfl rfl rfl rfl (L rfl) ?_
          refine qskip rfl rfl rfl rfl rfl (L rfl) ?_
          refine qskip rfl rfl rfl rfl rfl (L rfl) ?_
          refine qskipu rfl rfl rfl rfl (L rfl) ?_
          refine qskipu rfl rfl rfl rfl (L rfl) ?_
          refine qskipu rfl rfl rfl rfl (L rfl) ?_
          refine qskipu rfl rfl rfl rfl (L rfl) ?_
          refine qskipu rfl rfl rfl rfl (L rfl) ?_
          refine qskipu rfl rfl rfl rfl (L rfl) ?_
          refine qskipu rfl rfl rfl rfl (L rfl) ?_
          refine qskipu rfl rfl rfl rfl (L rfl) ?_
          refine qskipu rfl rfl rfl rfl (L rfl) ?_
          refine qskip rfl rfl rfl rfl rfl (L rfl) ?_
          refine qo (.inr ⟨_, _, _, rfl, rfl, rfl⟩) (L rfl) (pickF rfl rfl) rfl ?_
          refine qo (.inl rfl) (L rfl) (pickF rfl rfl) rfl ?_
          refine qnil ?_
          refine xthn ?_
          refine ccF rfl ?_
          refine cskip ?_
          refine xbn ?_
          refine xthn ?_
          refine creg ?_
          refine o (.inl rfl) (L rfl) (iadd rfl rfl (by first | omega | (simp; omega)) (by first | omega | (simp; omega))) rfl ?_
          refine o (.inl rfl) (L rfl) (mv rfl) rfl ?_
          refine onil ?_
          refine xlq (i + 1) (by refine ⟨by omega, range_step i0.2 ?_⟩; simp [stOK, c2, c3]; omega) (by simp only []; omega) (weak [] (by decide) (h0 hH) (by repeat (first | exact .n | refine .c rfl (by first | rfl) ?_)) (by repeat (first | exact .n | refine .c rfl (by first | rfl | (simp; done)) ?_)))
  · try simp only [q1, q2, q3, q4, q5, q6, q7, q8, q9, q10, q11, q12, q13, q14, q15, q16, q17] at c1
    refine cexit ?_
    refine xthe ?_
    refine xle ?_
    refine xbh ?_
    refine xthn ?_
    refine cseq ?_
    refine creg ?_
    refine o (.inl rfl) (L rfl) (mv rfl) rfl ?_
    first | refine ofact (t := 50) rfl fun hl2 => ?_ | refine ofacts (t := 50) rfl fun hl2 => ?_ | skip
    first | refine o (.inl rfl) (L rfl) (lenl rfl li26) rfl ?_ | refine o (.inl rfl) (L rfl) (leno rfl rfl li26) rfl ?_ | refine o (.inl rfl) (L rfl) (lennl rfl li26) rfl ?_
    refine o (.inl rfl) (L rfl) (ibin rfl rfl rfl) rfl ?_
    refine o (.inl rfl) (L rfl) (asn rfl) rfl ?_
    refine onil ?_
    refine xthn ?_
    refine cret ?_
    refine retd rfl (.t rfl (.n)) (h0 hH) rfl ?_
    refine re ?_
    have e : i = l.length := by omega
    subst e; rw [good, i0.2, Bool.true_and]; exact decide_eq_decide.2 (by omega)

theorem c_spec_ConfigText : Fe Go.Proofs.Try.prog 10 (ι := Leafs) (fun l => [.c (.l KRLSzSz) l]) (fun _ => []) (fun l => True) (fun l => (.tup [.c .s (cfgT l).1, .c .b (cfgT l).2], [])) := by
  refine fnE (n := 14) Go.Proofs.Try.func10 rfl rfl (ent Go.Proofs.Try.func10 (by kernel_rfl) rfl) ?_
  rintro l hx
  refine ⟨Le rfl, fun w0 S0 H Z hH => ?_⟩
  try simp only [] at hx
  refine cseq ?_
  refine creg ?_
  refine o (.inl rfl) (L rfl) (asn rfl) rfl ?_
  refine o (.inl rfl) (L rfl) (asn rfl) rfl ?_
  refine onil ?_
  refine xthn ?_
  refine cseq ?_
  refine cseq ?_
  refine creg ?_
  refine o (.inl rfl) (L rfl) (mv rfl) rfl ?_
  refine ocall c_spec_GoodConfig _ [] [] (by repeat (first | exact .n | refine .c rfl (.c (.e rfl)) ?_ | refine .c rfl (.c (.o (by decide) rfl)) ?_ | refine .c rfl (.c .n) ?_  | refine .c rfl (.g (by repeat (first | exact .n | refine .c (.e rfl) ?_ | refine .c (.o (by decide) rfl) ?_ | refine .c .n ?_))) ?_)) (by first | trivial | (refine ?_; omega) | (simp only []; omega) | (constructor <;> omega) | assumption) (.inl rfl) (by decide) (by decide) (by repeat (first | exact .n | refine .c rfl rfl ?_)) (Le rfl) (.inl rfl) (L rfl) ?_
  refine o (.inl rfl) (L rfl) (unot rfl) rfl ?_
  refine onil ?_
  refine xthn ?_
  refine ccond rfl (fun c1 => ?_) (fun c1 => ?_)
  · try simp only [q1, q2, q3, q4, q5, q6, q7, q8, q9, q10, q11, q12, q13, q14, q15, q16, q17] at c1
    refine cseq ?_
    refine creg ?_
    refine o (.inl rfl) (L rfl) (asn rfl) rfl ?_
    refine o (.inl rfl) (L rfl) (asn rfl) rfl ?_
    refine onil ?_
    refine xthn ?_
    refine cret ?_
    refine xthr ?_
    refine retd rfl (.t rfl (.t rfl (.n))) (h0 hH) rfl ?_
    exact re2 (by simp [cfgT, c1]) (by simp [cfgT, c1])
  · try simp only [q1, q2, q3, q4, q5, q6, q7, q8, q9, q10, q11, q12, q13, q14, q15, q16, q17] at c1
    refine cskip ?_
    refine xthn ?_
    refine cseq ?_
    refine creg ?_
    refine o (.inl rfl) (L rfl) (mv rfl) rfl ?_
    refine ocall c_spec_l15Text _ [] [] (by repeat (first | exact .n | refine .c rfl (.c (.e rfl)) ?_ | refine .c rfl (.c (.o (by decide) rfl)) ?_ | refine .c rfl (.c .n) ?_  | refine .c rfl (.g (by repeat (first | exact .n | refine .c (.e rfl) ?_ | refine .c (.o (by decide) rfl) ?_ | refine .c .n ?_))) ?_)) (by exact c1) (.inl rfl) (by decide) (by decide) (by repeat (first | exact .n | refine .c rfl rfl ?_)) (Le rfl) (.inl rfl) (L rfl) ?_
    refine o (.inl rfl) (L rfl) (asn rfl) rfl ?_
    refine onil ?_
    refine xthn ?_
    refine cseq ?_
    refine cseq ?_
    refine creg ?_
    refine o (.inl rfl) (L rfl) (mv rfl) rfl ?_
    first | refine ofact (t := 10) rfl fun hl1 => ?_ | refine ofacts (t := 10) rfl fun hl1 => ?_ | skip
    refine o (.inl rfl) (L rfl) (lens rfl us9) rfl ?_
    refine o (.inl rfl) (L rfl) (ibin rfl rfl rfl) rfl ?_
    refine onil ?_
    refine xthn ?_
    refine ccond rfl (fun c2 => ?_) (fun c2 => ?_)
    · try simp only [q1, q2, q3, q4, q5, q6, q7, q8, q9, q10, q11, q12, q13, q14, q15, q16, q17] at c2
      refine cseq ?_
      refine creg ?_
      refine o (.inl rfl) (L rfl) (asn rfl) rfl ?_
      refine o (.inl rfl) (L rfl) (asn rfl) rfl ?_
      refine onil ?_
      refine xthn ?_
      refine cret ?_
      refine xthr ?_
      refine retd rfl (.t rfl (.t rfl (.n))) (h0 hH) rfl ?_
      have e : (txt [] l).length > 1000 := by omega
      exact re2 (by simp [cfgT, c1, e]) (by simp [cfgT, c1, e])
    · try simp only [q1, q2, q3, q4, q5, q6, q7, q8, q9, q10, q11, q12, q13, q14, q15, q16, q17] at c2
      refine cskip ?_
      refine xthn ?_
      refine cseq ?_
      refine creg ?_
      refine o (.inl rfl) (L rfl) (mv rfl) rfl ?_
      refine o (.inl rfl) (L rfl) (asn rfl) rfl ?_
      refine o (.inl rfl) (L rfl) (asn rfl) rfl ?_
      refine onil ?_
      refine xthn ?_
      refine cret ?_
      refine retd rfl (.t rfl (.t rfl (.n))) (h0 hH) rfl ?_
      have e : ¬ (txt [] l).length > 1000 := by omega
      exact re2 (by simp [cfgT, c1, e]) (by simp [cfgT, c1, e])

end Go.Proofs.YtifpekpmnlcmoaaE
