import Derived.Test.YtifpekpmnlcmoaaProg
import Derived.Test.YtifpekpmnlcmoaaE19
import Derived.Test.YtifpekpmnlcmoaaA9
set_option linter.unusedVariables false
set_option maxRecDepth 100000
namespace Go.Proofs.YtifpekpmnlcmoaaE
open Go Go.RowKit Go.Shelf Go.Proofs
theorem fi98_0 : finfo Go.Proofs.Try.prog 98 0 = some 0 := by kernel_rfl
theorem ti96 : TI Go.Proofs.Try.prog 96 false 1 := ti (by kernel_rfl)
theorem up96 : (Go.Proofs.Try.prog).underlying 96 = some (.pointer 98) := by kernel_rfl
theorem uu182 : (Go.Proofs.Try.prog).underlying 182 = some .unsafePointer := by kernel_rfl
theorem ne174 : ∀ (v : Value) (w : World), (callFunc 174 #[v]).run Go.Proofs.Try.prog w = .ok (.value v) w := fun v w => by
  rw [run_callFunc_extern Go.Proofs.Try.func174 (by kernel_rfl) (by kernel_rfl) (by kernel_rfl) (e := Extern.AbiNoEscape.same) (by kernel_rfl)]
  rfl
theorem ti98 : TI Go.Proofs.Try.prog 98 true 2 := ti (by kernel_rfl)
theorem fi98_1 : finfo Go.Proofs.Try.prog 98 1 = some 1 := by kernel_rfl
theorem ti34 : TI Go.Proofs.Try.prog 34 false 1 := ti (by kernel_rfl)
theorem bi34 : BI Go.Proofs.Try.prog 34 5 := ⟨by kernel_rfl, by kernel_rfl⟩
theorem li34 : linfo Go.Proofs.Try.prog 34 = some (5, 1) := by kernel_rfl
theorem c_strings_Builder_copyCheck : Fe Go.Proofs.Try.prog 154 (ι := List UInt8) (fun bs => [.bp 0 0]) (fun bs => [.bld 98 5 bs]) (fun bs => True) (fun bs => (.tup [], [.bld 98 5 bs])) := by
  refine fnE (n := 20) Go.Proofs.Try.func154 rfl rfl (ent Go.Proofs.Try.func154 (by kernel_rfl) rfl) ?_
  rintro bs hx
  refine ⟨Le rfl, fun w0 S0 H Z hH => ?_⟩
  try simp only [] at hx
  refine cseq ?_
  refine cbu (k := 0) rfl ?_ ?_
  ·
    refine creg ?_
    refine o (.inl rfl) (L rfl) (mv rfl) rfl ?_
    first | refine o (.inl rfl) (L rfl) (ncb rfl) rfl ?_ | refine o (.inl rfl) (L rfl) (ncr rfl) rfl ?_ | refine o (.inl rfl) (L rfl) (nce rfl) rfl ?_ | refine o (.inl rfl) (L rfl) (ncf rfl) rfl ?_
    first | refine o (.inl rfl) (L rfl) (fab rfl fi98_0) rfl ?_ | refine o (.inl rfl) (L rfl) (fae rfl fi98_0) rfl ?_ | refine o (.inl rfl) (L rfl) (far rfl fi98_0 (Le rfl)) rfl ?_
    first | refine o (.inl rfl) (L rfl) (ldb rfl rfl rfl ti96) rfl ?_ | refine o (.inl rfl) (L rfl) (ldr rfl ti96) rfl ?_ | refine o (.inl rfl) (L rfl) (lde rfl rfl (by first | omega | (simp; omega)) (L rfl) rfl ti96) rfl ?_
    first | refine o (.inl rfl) (L rfl) (peqn rfl up96) rfl ?_ | refine o (.inl rfl) (L rfl) (peqb rfl up96) rfl ?_
    refine onil ?_
    refine xthn ?_
    refine ccT rfl ?_
    refine creg ?_
    refine o (.inl rfl) (L rfl) (mv rfl) rfl ?_
    refine o (.inl rfl) (L rfl) (mv rfl) rfl ?_
    refine o (.inl rfl) (L rfl) (cvu (n := 1) rfl rfl up96 uu182 (by kernel_rfl) (L rfl)) rfl ?_
    refine o (.inl rfl) (L rfl) (cid rfl ne174) rfl ?_
    refine o (.inl rfl) (L rfl) (cvb (n := 2) rfl rfl uu182 up96 (by kernel_rfl) (by kernel_rfl)) rfl ?_
    first | refine o (.inl rfl) (L rfl) (ncb rfl) rfl ?_ | refine o (.inl rfl) (L rfl) (ncr rfl) rfl ?_ | refine o (.inl rfl) (L rfl) (nce rfl) rfl ?_ | refine o (.inl rfl) (L rfl) (ncf rfl) rfl ?_
    first | refine o (.inl rfl) (L rfl) (fab rfl fi98_0) rfl ?_ | refine o (.inl rfl) (L rfl) (fae rfl fi98_0) rfl ?_ | refine o (.inl rfl) (L rfl) (far rfl fi98_0 (Le rfl)) rfl ?_
    first | refine ost (.inl rfl) rfl rfl rfl rfl (Le rfl) ti96 ?_ | refine ste (.inl rfl) rfl rfl (by first | omega | (simp; omega)) rfl .c ti96 ?_
    refine onil ?_
    refine retgn ?_
    first | refine xwk (bldF (k := 0) (j := 1) (bs := bs) (.inr rfl) rfl rfl) ?_ | refine xwk (bldF (k := 0) (j := 1) (bs := bs) (.inl rfl) rfl rfl) ?_
    exact retk [0] (ob' := [.bld 98 5 bs]) rfl (.n) (by decide) (h1 hH) (.c rfl rfl .n) rfl rfl
  ·
    refine creg ?_
    refine o (.inl rfl) (L rfl) (mv rfl) rfl ?_
    first | refine o (.inl rfl) (L rfl) (ncb rfl) rfl ?_ | refine o (.inl rfl) (L rfl) (ncr rfl) rfl ?_ | refine o (.inl rfl) (L rfl) (nce rfl) rfl ?_ | refine o (.inl rfl) (L rfl) (ncf rfl) rfl ?_
    first | refine o (.inl rfl) (L rfl) (fab rfl fi98_0) rfl ?_ | refine o (.inl rfl) (L rfl) (fae rfl fi98_0) rfl ?_ | refine o (.inl rfl) (L rfl) (far rfl fi98_0 (Le rfl)) rfl ?_
    first | refine o (.inl rfl) (L rfl) (ldb rfl rfl rfl ti96) rfl ?_ | refine o (.inl rfl) (L rfl) (ldr rfl ti96) rfl ?_ | refine o (.inl rfl) (L rfl) (lde rfl rfl (by first | omega | (simp; omega)) (L rfl) rfl ti96) rfl ?_
    first | refine o (.inl rfl) (L rfl) (peqn rfl up96) rfl ?_ | refine o (.inl rfl) (L rfl) (peqb rfl up96) rfl ?_
    refine onil ?_
    refine xthn ?_
    refine ccF rfl ?_
    refine cseq ?_
    refine creg ?_
    refine o (.inl rfl) (L rfl) (mv rfl) rfl ?_
    first | refine o (.inl rfl) (L rfl) (ncb rfl) rfl ?_ | refine o (.inl rfl) (L rfl) (ncr rfl) rfl ?_ | refine o (.inl rfl) (L rfl) (nce rfl) rfl ?_ | refine o (.inl rfl) (L rfl) (ncf rfl) rfl ?_
    first | refine o (.inl rfl) (L rfl) (fab rfl fi98_0) rfl ?_ | refine o (.inl rfl) (L rfl) (fae rfl fi98_0) rfl ?_ | refine o (.inl rfl) (L rfl) (far rfl fi98_0 (Le rfl)) rfl ?_
    first | refine o (.inl rfl) (L rfl) (ldb rfl rfl rfl ti96) rfl ?_ | refine o (.inl rfl) (L rfl) (ldr rfl ti96) rfl ?_ | refine o (.inl rfl) (L rfl) (lde rfl rfl (by first | omega | (simp; omega)) (L rfl) rfl ti96) rfl ?_
    refine o (.inl rfl) (L rfl) (mv rfl) rfl ?_
    refine o (.inl rfl) (L rfl) (pneb rfl rfl up96 1 ti98.sz) rfl ?_
    refine onil ?_
    refine xthn ?_
    refine ccF rfl ?_
    refine cskip ?_
    refine retgn ?_
    first | refine xwk (bldF (k := 0) (j := 1) (bs := bs) (.inr rfl) rfl rfl) ?_ | refine xwk (bldF (k := 0) (j := 1) (bs := bs) (.inl rfl) rfl rfl) ?_
    exact retk [0] (ob' := [.bld 98 5 bs]) rfl (.n) (by decide) (h1 hH) (.c rfl rfl .n) rfl rfl

theorem c_strings_Builder_WriteString : Fe Go.Proofs.Try.prog 116 (ι := List UInt8 × List UInt8) (fun | (bs, s) => [.bp 0 0, .c .s s]) (fun | (bs, s) => [.bld 98 5 bs]) (fun | (bs, s) => bs.length + s.length ≤ 140737488355328) (fun | (bs, s) => (.tup [.c (.i .i64) (s.length : Int), .z], [.bld 98 5 (bs ++ s)])) := by
  refine fnE (n := 19) Go.Proofs.Try.func116 rfl rfl (ent Go.Proofs.Try.func116 (by kernel_rfl) rfl) ?_
  rintro ⟨bs, s⟩ hx
  refine ⟨Le rfl, fun w0 S0 H Z hH => ?_⟩
  try simp only [] at hx
  refine cseq ?_
  refine creg ?_
  refine o (.inl rfl) (L rfl) (asn rfl) rfl ?_
  refine o (.inl rfl) (L rfl) (asnz) rfl ?_
  refine onil ?_
  refine xthn ?_
  refine cseq ?_
  refine creg ?_
  refine o (.inl rfl) (L rfl) (mv rfl) rfl ?_
  refine ocall c_strings_Builder_copyCheck bs [0] [] (by repeat (first | exact .n | refine .c rfl (.c (.e rfl)) ?_ | refine .c rfl (.c (.o (by decide) rfl)) ?_ | refine .c rfl (.c .n) ?_  | refine .c rfl (.g (by repeat (first | exact .n | refine .c (.e rfl) ?_ | refine .c (.o (by decide) rfl) ?_ | refine .c .n ?_))) ?_)) (by first | trivial | (refine ?_; omega) | (simp only []; omega) | (constructor <;> omega) | assumption) (.inl rfl) (by decide) (by decide) (by repeat (first | exact .n | refine .c rfl rfl ?_)) (Le rfl) (.inl rfl) (L rfl) ?_
  refine onil ?_
  refine xthn ?_
  refine cseq ?_
  refine cbu (k := 0) rfl ?_ ?_
  ·
    refine creg ?_
    refine o (.inl rfl) (L rfl) (mv rfl) rfl ?_
    refine o (.inl rfl) (L rfl) (mv rfl) rfl ?_
    first | refine o (.inl rfl) (L rfl) (ncb rfl) rfl ?_ | refine o (.inl rfl) (L rfl) (ncr rfl) rfl ?_ | refine o (.inl rfl) (L rfl) (nce rfl) rfl ?_ | refine o (.inl rfl) (L rfl) (ncf rfl) rfl ?_
    first | refine o (.inl rfl) (L rfl) (fab rfl fi98_1) rfl ?_ | refine o (.inl rfl) (L rfl) (fae rfl fi98_1) rfl ?_ | refine o (.inl rfl) (L rfl) (far rfl fi98_1 (Le rfl)) rfl ?_
    first | refine o (.inl rfl) (L rfl) (ldb rfl rfl rfl ti34) rfl ?_ | refine o (.inl rfl) (L rfl) (ldr rfl ti34) rfl ?_ | refine o (.inl rfl) (L rfl) (lde rfl rfl (by first | omega | (simp; omega)) (L rfl) rfl ti34) rfl ?_
    refine o (.inl rfl) (L rfl) (mv rfl) rfl ?_
    refine oapps (.inl rfl) (L rfl) rfl rfl rfl bi34 us9 (by first | omega | (simp; omega)) ?_
    first | refine o (.inl rfl) (L rfl) (ncb rfl) rfl ?_ | refine o (.inl rfl) (L rfl) (ncr rfl) rfl ?_ | refine o (.inl rfl) (L rfl) (nce rfl) rfl ?_ | refine o (.inl rfl) (L rfl) (ncf rfl) rfl ?_
    first | refine o (.inl rfl) (L rfl) (fab rfl fi98_1) rfl ?_ | refine o (.inl rfl) (L rfl) (fae rfl fi98_1) rfl ?_ | refine o (.inl rfl) (L rfl) (far rfl fi98_1 (Le rfl)) rfl ?_
    first | refine ost (.inl rfl) rfl rfl rfl rfl (Le rfl) ti34 ?_ | refine ste (.inl rfl) rfl rfl (by first | omega | (simp; omega)) rfl .c ti34 ?_
    refine onil ?_
    refine xthn ?_
    refine cseq ?_
    refine creg ?_
    refine o (.inl rfl) (L rfl) (mv rfl) rfl ?_
    first | refine ofact (t := 17) rfl fun hl1 => ?_ | refine ofacts (t := 17) rfl fun hl1 => ?_ | skip
    refine o (.inl rfl) (L rfl) (lens rfl us9) rfl ?_
    refine o (.inl rfl) (L rfl) (asn rfl) rfl ?_
    refine o (.inl rfl) (L rfl) (asnz) rfl ?_
    refine onil ?_
    refine xthn ?_
    refine cret ?_
    first | refine xwk (bldF (k := 0) (j := 2) (bs := bs ++ s) (.inr rfl) rfl rfl) ?_ | refine xwk (bldF (k := 0) (j := 2) (bs := bs ++ s) (.inl rfl) rfl rfl) ?_
    exact retk [0] (ob' := [.bld 98 5 (bs ++ s)]) rfl (.t rfl (.t rfl (.n))) (by decide) (h1 hH) (.c rfl rfl .n) rfl rfl
  ·
    refine creg ?_
    refine o (.inl rfl) (L rfl) (mv rfl) rfl ?_
    refine o (.inl rfl) (L rfl) (mv rfl) rfl ?_
    first | refine o (.inl rfl) (L rfl) (ncb rfl) rfl ?_ | refine o (.inl rfl) (L rfl) (ncr rfl) rfl ?_ | refine o (.inl rfl) (L rfl) (nce rfl) rfl ?_ | refine o (.inl rfl) (L rfl) (ncf rfl) rfl ?_
    first | refine o (.inl rfl) (L rfl) (fab rfl fi98_1) rfl ?_ | refine o (.inl rfl) (L rfl) (fae rfl fi98_1) rfl ?_ | refine o (.inl rfl) (L rfl) (far rfl fi98_1 (Le rfl)) rfl ?_
    first | refine o (.inl rfl) (L rfl) (ldb rfl rfl rfl ti34) rfl ?_ | refine o (.inl rfl) (L rfl) (ldr rfl ti34) rfl ?_ | refine o (.inl rfl) (L rfl) (lde rfl rfl (by first | omega | (simp; omega)) (L rfl) rfl ti34) rfl ?_
    refine o (.inl rfl) (L rfl) (mv rfl) rfl ?_
    refine oapps (.inl rfl) (L rfl) rfl rfl rfl bi34 us9 (by first | omega | (simp; omega)) ?_
    first | refine o (.inl rfl) (L rfl) (ncb rfl) rfl ?_ | refine o (.inl rfl) (L rfl) (ncr rfl) rfl ?_ | refine o (.inl rfl) (L rfl) (nce rfl) rfl ?_ | refine o (.inl rfl) (L rfl) (ncf rfl) rfl ?_
    first | refine o (.inl rfl) (L rfl) (fab rfl fi98_1) rfl ?_ | refine o (.inl rfl) (L rfl) (fae rfl fi98_1) rfl ?_ | refine o (.inl rfl) (L rfl) (far rfl fi98_1 (Le rfl)) rfl ?_
    first | refine ost (.inl rfl) rfl rfl rfl rfl (Le rfl) ti34 ?_ | refine ste (.inl rfl) rfl rfl (by first | omega | (simp; omega)) rfl .c ti34 ?_
    refine onil ?_
    refine xthn ?_
    refine cseq ?_
    refine creg ?_
    refine o (.inl rfl) (L rfl) (mv rfl) rfl ?_
    first | refine ofact (t := 17) rfl fun hl2 => ?_ | refine ofacts (t := 17) rfl fun hl2 => ?_ | skip
    refine o (.inl rfl) (L rfl) (lens rfl us9) rfl ?_
    refine o (.inl rfl) (L rfl) (asn rfl) rfl ?_
    refine o (.inl rfl) (L rfl) (asnz) rfl ?_
    refine onil ?_
    refine xthn ?_
    refine cret ?_
    first | refine xwk (bldF (k := 0) (j := 2) (bs := bs ++ s) (.inr rfl) rfl rfl) ?_ | refine xwk (bldF (k := 0) (j := 2) (bs := bs ++ s) (.inl rfl) rfl rfl) ?_
    exact retk [0] (ob' := [.bld 98 5 (bs ++ s)]) rfl (.t rfl (.t rfl (.n))) (by decide) (h1 hH) (.c rfl rfl .n) rfl rfl

theorem c_strings_Builder_Len : Fe Go.Proofs.Try.prog 61 (ι := List UInt8) (fun bs => [.bp 0 0]) (fun bs => [.bld 98 5 bs]) (fun bs => True) (fun bs => (.c (.i .i64) (bs.length : Int), [.bld 98 5 bs])) := by
  refine fnE (n := 8) Go.Proofs.Try.func61 rfl rfl (ent Go.Proofs.Try.func61 (by kernel_rfl) rfl) ?_
  rintro bs hx
  refine ⟨Le rfl, fun w0 S0 H Z hH => ?_⟩
  try simp only [] at hx
  refine cseq ?_
  refine creg ?_
  refine o (.inl rfl) (L rfl) (asn rfl) rfl ?_
  refine onil ?_
  refine xthn ?_
  refine cseq ?_
  refine cbu (k := 0) rfl ?_ ?_
  ·
    refine creg ?_
    refine o (.inl rfl) (L rfl) (mv rfl) rfl ?_
    first | refine o (.inl rfl) (L rfl) (ncb rfl) rfl ?_ | refine o (.inl rfl) (L rfl) (ncr rfl) rfl ?_ | refine o (.inl rfl) (L rfl) (nce rfl) rfl ?_ | refine o (.inl rfl) (L rfl) (ncf rfl) rfl ?_
    first | refine o (.inl rfl) (L rfl) (fab rfl fi98_1) rfl ?_ | refine o (.inl rfl) (L rfl) (fae rfl fi98_1) rfl ?_ | refine o (.inl rfl) (L rfl) (far rfl fi98_1 (Le rfl)) rfl ?_
    first | refine o (.inl rfl) (L rfl) (ldb rfl rfl rfl ti34) rfl ?_ | refine o (.inl rfl) (L rfl) (ldr rfl ti34) rfl ?_ | refine o (.inl rfl) (L rfl) (lde rfl rfl (by first | omega | (simp; omega)) (L rfl) rfl ti34) rfl ?_
    first | refine ofact (t := 6) rfl fun hl1 => ?_ | refine ofacts (t := 6) rfl fun hl1 => ?_ | skip
    first | refine o (.inl rfl) (L rfl) (lenl rfl li34) rfl ?_ | refine o (.inl rfl) (L rfl) (leno rfl rfl li34) rfl ?_ | refine o (.inl rfl) (L rfl) (lennl rfl li34) rfl ?_
    refine o (.inl rfl) (L rfl) (asn rfl) rfl ?_
    refine onil ?_
    refine xthn ?_
    refine cret ?_
    first | refine xwk (bldF (k := 0) (j := 1) (bs := bs) (.inr rfl) rfl rfl) ?_ | refine xwk (bldF (k := 0) (j := 1) (bs := bs) (.inl rfl) rfl rfl) ?_
    exact retk [0] (ob' := [.bld 98 5 bs]) rfl (.t rfl (.n)) (by decide) (h1 hH) (.c rfl rfl .n) rfl (by rw [byts_len]; rfl)
  ·
    refine creg ?_
    refine o (.inl rfl) (L rfl) (mv rfl) rfl ?_
    first | refine o (.inl rfl) (L rfl) (ncb rfl) rfl ?_ | refine o (.inl rfl) (L rfl) (ncr rfl) rfl ?_ | refine o (.inl rfl) (L rfl) (nce rfl) rfl ?_ | refine o (.inl rfl) (L rfl) (ncf rfl) rfl ?_
    first | refine o (.inl rfl) (L rfl) (fab rfl fi98_1) rfl ?_ | refine o (.inl rfl) (L rfl) (fae rfl fi98_1) rfl ?_ | refine o (.inl rfl) (L rfl) (far rfl fi98_1 (Le rfl)) rfl ?_
    first | refine o (.inl rfl) (L rfl) (ldb rfl rfl rfl ti34) rfl ?_ | refine o (.inl rfl) (L rfl) (ldr rfl ti34) rfl ?_ | refine o (.inl rfl) (L rfl) (lde rfl rfl (by first | omega | (simp; omega)) (L rfl) rfl ti34) rfl ?_
    first | refine ofact (t := 6) rfl fun hl2 => ?_ | refine ofacts (t := 6) rfl fun hl2 => ?_ | skip
    first | refine o (.inl rfl) (L rfl) (lenl rfl li34) rfl ?_ | refine o (.inl rfl) (L rfl) (leno rfl rfl li34) rfl ?_ | refine o (.inl rfl) (L rfl) (lennl rfl li34) rfl ?_
    refine o (.inl rfl) (L rfl) (asn rfl) rfl ?_
    refine onil ?_
    refine xthn ?_
    refine cret ?_
    first | refine xwk (bldF (k := 0) (j := 1) (bs := bs) (.inr rfl) rfl rfl) ?_ | refine xwk (bldF (k := 0) (j := 1) (bs := bs) (.inl rfl) rfl rfl) ?_
    exact retk [0] (ob' := [.bld 98 5 bs]) rfl (.t rfl (.n)) (by decide) (h1 hH) (.c rfl rfl .n) rfl (by rw [byts_len]; rfl)

def lays169_ren : Go.Shelf.Ren := ⟨fun | 169 => 62 | n => n, fun | 70 => 96 | 9 => 9 | 0 => 0 | 72 => 98 | 37 => 34 | 127 => 146 | 3 => 3 | 5 => 5 | n => n, fun | n => n⟩
theorem lays169 : Go.Proofs.Lays.n169 Go.Proofs.Try.prog lays169_ren := {
  mixed := by kernel_rfl
  f169 := Go.Proofs.Try.func62.trans (congrArg some (by kernel_rfl))
  t0 := Go.Proofs.Try.underlying0
  a0 := Go.Proofs.Try.isAgg0
  z0 := Go.Proofs.Try.sizeOf0
  v0 := Go.Proofs.Try.zeroValue0
  t3 := Go.Proofs.Try.underlying3
  a3 := Go.Proofs.Try.isAgg3
  z3 := Go.Proofs.Try.sizeOf3
  v3 := Go.Proofs.Try.zeroValue3
  t9 := Go.Proofs.Try.underlying9
  a9 := Go.Proofs.Try.isAgg9
  z9 := Go.Proofs.Try.sizeOf9
  v9 := Go.Proofs.Try.zeroValue9
  t37 := Go.Proofs.Try.underlying34
  a37 := Go.Proofs.Try.isAgg34
  z37 := Go.Proofs.Try.sizeOf34
  v37 := Go.Proofs.Try.zeroValue34
  t70 := Go.Proofs.Try.underlying96
  a70 := Go.Proofs.Try.isAgg96
  z70 := Go.Proofs.Try.sizeOf96
  v70 := Go.Proofs.Try.zeroValue96
  t72 := Go.Proofs.Try.underlying98
  a72 := Go.Proofs.Try.isAgg98
  z72 := Go.Proofs.Try.sizeOf98
  v72 := Go.Proofs.Try.zeroValue98
  t127 := Go.Proofs.Try.underlying146
  a127 := Go.Proofs.Try.isAgg146
  z127 := Go.Proofs.Try.sizeOf146
  v127 := Go.Proofs.Try.zeroValue146 }
theorem Builder_Extra_169 : Builder.Extra Go.Proofs.Try.prog lays169_ren := {
  sizeBuilder := by kernel_rfl
  liesBuilder := by kernel_rfl
  t5 := Go.Proofs.Try.underlying5
  a5 := Go.Proofs.Try.isAgg5
  z5 := Go.Proofs.Try.sizeOf5
  v5 := Go.Proofs.Try.zeroValue5
  infoByte := by kernel_rfl
  cellsByte := by kernel_rfl
  sizeByte := by kernel_rfl
  neB5 := by decide }
theorem c_strings_Builder_String : Fe Go.Proofs.Try.prog 62 (ι := List UInt8) (fun _ => [.bp 0 0]) (fun bs => [.bld 98 5 bs]) (fun bs => bs.length ≤ 9223372036854775807) (fun bs => (.c .s bs, [.dead])) :=
  bstr lays169 Builder_Extra_169 (ent Go.Proofs.Try.func62 (by kernel_rfl) rfl)

end Go.Proofs.YtifpekpmnlcmoaaE
