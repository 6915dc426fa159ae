/- The engine, part 11: cuts, bytes of texts, tuples, pointers, function values; comparisons with nil; results. -/
import Derived.Test.YtifpekpmnlcmoaaE10
set_option linter.unusedVariables false
set_option linter.unusedSimpArgs false
namespace Go.Proofs.YtifpekpmnlcmoaaE
open Go Go.RowKit

/-- Byte i of a text. -/
def bx (s : List UInt8) (i : Int) : Int := ((s.getD i.toNat 0).toNat : Int)

section
variable {P : Program} {X : Cx} {Q : Exit → Act → World → Prop} {tm : Tm} {ob : List Ob} {dst : Option Nat} {ty : TypeId} {pos : String} {after : Array Edge} {gd : Option (Nat × Bool)}

theorem wrap_u8 (b : UInt8) : IntKind.u8.wrap (b.toNat : Int) = (b.toNat : Int) := by
  have := b.toNat_lt
  simp only [IntKind.wrap, IntKind.bits, IntKind.signed]
  simp
  omega
theorem get_str (s : List UInt8) (i : Nat) : (⟨⟨s⟩⟩ : ByteArray)[i]? = s[i]? := by
  by_cases h : i < s.length
  · rw [List.getElem?_eq_getElem h]
    have h' : i < (⟨⟨s⟩⟩ : ByteArray).size := by simpa [ByteArray.size] using h
    rw [getElem?_pos _ i h']
    rfl
  · rw [List.getElem?_eq_none (by omega)]
    have h' : ¬ i < (⟨⟨s⟩⟩ : ByteArray).size := by simpa [ByteArray.size] using h
    rw [getElem?_neg _ i h']
theorem ixs {x y : Operand} {t : TypeId} {s : List UInt8} {k : IntKind} {i : Int} (hx : rd tm x = some (.c .s s)) (hy : rd tm y = some (.c (.i k) i)) (ht : P.underlying t = some .string) (h0 : 0 ≤ i) (h1 : i < s.length) :
    Val P X tm ob ⟨dst, .index t x y, ty, pos, after, gd⟩ (.c (.i .u8) (bx s i)) := fun a w G hG hv => by
  have hlt : i.toNat < s.length := by omega
  have hb : bx s i = ((s[i.toNat]).toNat : Int) := by simp [bx, List.getD_eq_getElem?_getD, hlt]
  refine ⟨.int .u8 (bx s i), fun w' _ => ?_, vri (by rw [hb]; exact wrap_u8 _)⟩
  have e : (⟨⟨s⟩⟩ : ByteArray)[i.toNat]? = some s[i.toNat] := by rw [get_str, List.getElem?_eq_getElem hlt]
  simp [execOp, Instr.index, (vr_s (hv x _ hx)).1, (vr_i (hv y _ hy)).1, asIntOf, str, run_underlying ht, h0, e, hb]

theorem ext_str (s : List UInt8) (l h : Nat) : (⟨⟨s⟩⟩ : ByteArray).extract l h = ⟨⟨(s.drop l).take (h - l)⟩⟩ := by
  apply ByteArray.ext
  simp
theorem cutsl {t : TypeId} {x y : Operand} {s : List UInt8} {k : IntKind} {l : Int} (hx : rd tm x = some (.c .s s)) (hy : rd tm y = some (.c (.i k) l)) (ht : P.underlying t = some .string) (h0 : 0 ≤ l) (h1 : l ≤ s.length) :
    Val P X tm ob ⟨dst, .slice t x (some y) none none, ty, pos, after, gd⟩ (.c .s (s.drop l.toNat)) := fun a w G hG hv => by
  obtain ⟨e1, e2⟩ := vr_s (hv x _ hx)
  refine ⟨str (s.drop l.toNat), fun w' _ => ?_, vrs (by simp; omega)⟩
  have hs : (⟨⟨s⟩⟩ : ByteArray).size = s.length := by simp [ByteArray.size]
  simp only [execOp, Instr.sliceAt, Sem.run_bind, run_underlying ht, Result.andThen_ok, Option.map_some, Option.map_none, e1, (vr_i (hv y _ hy)).1, str]
  rw [run_slice_string_l w' t _ ht k l h0 (by rw [hs]; exact h1), hs, ext_str]
  simp only [Result.andThen_ok, Sem.run_pure]
  rw [List.take_of_length_le (by simp)]
theorem cutsh {t : TypeId} {x y : Operand} {s : List UInt8} {k : IntKind} {h : Int} (hx : rd tm x = some (.c .s s)) (hy : rd tm y = some (.c (.i k) h)) (ht : P.underlying t = some .string) (h0 : 0 ≤ h) (h1 : h ≤ s.length) :
    Val P X tm ob ⟨dst, .slice t x none (some y) none, ty, pos, after, gd⟩ (.c .s (s.take h.toNat)) := fun a w G hG hv => by
  obtain ⟨e1, e2⟩ := vr_s (hv x _ hx)
  refine ⟨str (s.take h.toNat), fun w' _ => ?_, vrs (by simp; omega)⟩
  have hs : (⟨⟨s⟩⟩ : ByteArray).size = s.length := by simp [ByteArray.size]
  simp only [execOp, Instr.sliceAt, Sem.run_bind, run_underlying ht, Result.andThen_ok, Option.map_some, Option.map_none, e1, (vr_i (hv y _ hy)).1, str]
  rw [run_slice_string_h w' t _ ht k h h0 (by rw [hs]; exact h1), ext_str]
  simp only [Result.andThen_ok, Sem.run_pure, List.drop_zero, Nat.sub_zero]
theorem run_slice_string_lh' {w : World} {t : TypeId} {s : ByteArray} (ht : P.underlying t = some .string) (kl kh : IntKind) (l h : Int) (h0 : 0 ≤ l) (h1 : l ≤ h) (h2 : h ≤ s.size) :
    (Instr.slice t (.string s) (some (.int kl l)) (some (.int kh h)) none).run P w = .ok (.string (s.extract l.toNat h.toNat)) w := by
  have eh : (h.toNat : Int) = h := Int.toNat_of_nonneg (by omega)
  simp [Instr.slice, run_underlying ht, Instr.sliceBounds, run_sliceBound, sliced, *, eh, (by omega : 0 ≤ l), (by omega : 0 ≤ h)]
theorem cutslh {t : TypeId} {x y z : Operand} {s : List UInt8} {k k' : IntKind} {l h : Int} (hx : rd tm x = some (.c .s s)) (hy : rd tm y = some (.c (.i k) l)) (hz : rd tm z = some (.c (.i k') h)) (ht : P.underlying t = some .string) (h0 : 0 ≤ l) (h1 : l ≤ h) (h2 : h ≤ s.length) :
    Val P X tm ob ⟨dst, .slice t x (some y) (some z) none, ty, pos, after, gd⟩ (.c .s ((s.drop l.toNat).take (h.toNat - l.toNat))) := fun a w G hG hv => by
  obtain ⟨e1, e2⟩ := vr_s (hv x _ hx)
  refine ⟨str ((s.drop l.toNat).take (h.toNat - l.toNat)), fun w' _ => ?_, vrs (by simp; omega)⟩
  have hs : (⟨⟨s⟩⟩ : ByteArray).size = s.length := by simp [ByteArray.size]
  simp only [execOp, Instr.sliceAt, Sem.run_bind, run_underlying ht, Result.andThen_ok, Option.map_some, Option.map_none, e1, (vr_i (hv y _ hy)).1, (vr_i (hv z _ hz)).1, str]
  rw [run_slice_string_lh' ht k k' l h h0 h1 (by rw [hs]; exact h2), ext_str]
  simp only [Result.andThen_ok, Sem.run_pure]

/-- A row cut. -/
theorem RS_cut {w : World} {ok : Nat → Prop} {ts : Tys} {xs : List ts.den} {A : Option Addr} {c l n : Nat} (hc : xs.length ≤ c) (hm : c ≤ 9223372036854775807)
    (hrow : xs ≠ [] → ∃ b p, A = some ⟨b, p, none⟩ ∧ ok b ∧ b < w.heap.size ∧ ∀ (j : Nat) (x : ts.den), xs[j]? = some x → ∃ cs, RSs w ok ts x cs ∧ At w b (p + j * ts.sz) cs)
    (hn : l + n ≤ xs.length) : RS w ok (.l ts) ((xs.drop l).take n) (sliced A l (l + n) c ts.sz) := by
  have hlen : ((xs.drop l).take n).length = n := by simp; omega
  simp only [RS, sliced, hlen]
  refine ⟨_, _, by rw [Nat.add_sub_cancel_left], by omega, by omega, fun hne => ?_⟩
  have hn0 : 0 < n := by rw [← hlen]; exact List.length_pos_iff.2 hne
  obtain ⟨b, p, rfl, hok, hlt, hx⟩ := hrow (by intro h; subst h; simp at hn; omega)
  have hcl : c ≠ l := by omega
  rw [if_neg hcl, Option.map_some, Addr.add_lit]
  refine ⟨b, p + l * ts.sz, rfl, hok, hlt, fun j x hj => ?_⟩
  have hjn : j < n := by have := (List.getElem?_eq_some_iff.1 hj).1; omega
  rw [List.getElem?_take_of_lt hjn, List.getElem?_drop] at hj
  obtain ⟨cs, h1, h2⟩ := hx _ _ hj
  refine ⟨cs, h1, ?_⟩
  rw [show p + l * ts.sz + j * ts.sz = p + (l + j) * ts.sz by rw [Nat.add_mul]; omega]
  exact h2
theorem run_sl {w : World} {t e : TypeId} {m : Nat} (h : linfo P t = some (e, m)) (A : Option Addr) (n c : Nat) (lo hi : Option Value) (l h' mm : Nat) (hb : (Instr.sliceBounds true n c lo hi none).run P w = .ok (l, h', mm) w) :
    (Instr.sliceAt t (.slice A n c) lo hi none).run P w = .ok (sliced A l h' mm m) w := by
  obtain ⟨hu, hs⟩ := linfo_u h
  simp only [Instr.sliceAt, Instr.slice, Sem.run_bind, run_underlying hu, Result.andThen_ok, hb, hs, Sem.run_pure, sliced]
theorem cutl {t e : TypeId} {m : Nat} {x y : Operand} {ts : Tys} {xs : List ts.den} {k : IntKind} {l : Int} (hx : rd tm x = some (.c (.l ts) xs)) (hy : rd tm y = some (.c (.i k) l)) (ht : linfo P t = some (e, m)) (hm : (m == ts.sz) = true) (h0 : 0 ≤ l) (h1 : l ≤ xs.length) :
    Val P X tm ob ⟨dst, .slice t x (some y) none none, ty, pos, after, gd⟩ (.c (.l ts) (xs.drop l.toNat)) := fun a w G hG hv => by
  obtain rfl : m = ts.sz := by simpa using hm
  have hr := hv x _ hx
  simp only [VR, RS] at hr
  obtain ⟨A, c, hr, hc, hmx, hrow⟩ := hr
  refine ⟨sliced A l.toNat xs.length c ts.sz, fun w' _ => ?_, ?_⟩
  · simp only [execOp, Sem.run_bind, Option.map_some, Option.map_none, hr, (vr_i (hv y _ hy)).1]
    rw [run_sl ht A xs.length c _ _ l.toNat xs.length c (by simp [Instr.sliceBounds, run_sliceBound, h0, h1])]
    simp only [Result.andThen_ok, Sem.run_pure]
  · have := RS_cut (l := l.toNat) (n := xs.length - l.toNat) hc hmx hrow (by omega)
    rw [List.take_of_length_le (by simp), show l.toNat + (xs.length - l.toNat) = xs.length by omega] at this
    exact this
theorem cuth {t e : TypeId} {m : Nat} {x y : Operand} {ts : Tys} {xs : List ts.den} {k : IntKind} {h : Int} (hx : rd tm x = some (.c (.l ts) xs)) (hy : rd tm y = some (.c (.i k) h)) (ht : linfo P t = some (e, m)) (hm : (m == ts.sz) = true) (h0 : 0 ≤ h) (h1 : h ≤ xs.length) :
    Val P X tm ob ⟨dst, .slice t x none (some y) none, ty, pos, after, gd⟩ (.c (.l ts) (xs.take h.toNat)) := fun a w G hG hv => by
  obtain rfl : m = ts.sz := by simpa using hm
  have hr := hv x _ hx
  simp only [VR, RS] at hr
  obtain ⟨A, c, hr, hc, hmx, hrow⟩ := hr
  refine ⟨sliced A 0 h.toNat c ts.sz, fun w' _ => ?_, ?_⟩
  · simp only [execOp, Sem.run_bind, Option.map_some, Option.map_none, hr, (vr_i (hv y _ hy)).1]
    rw [run_sl ht A xs.length c _ _ 0 h.toNat c (by simp [Instr.sliceBounds, run_sliceBound, h0, (by omega : h ≤ (c : Int))])]
    simp only [Result.andThen_ok, Sem.run_pure]
  · have := RS_cut (l := 0) (n := h.toNat) hc hmx hrow (by omega)
    rw [List.drop_zero, Nat.zero_add] at this
    exact this
theorem cutlh {t e : TypeId} {m : Nat} {x y z : Operand} {ts : Tys} {xs : List ts.den} {k k' : IntKind} {l h : Int} (hx : rd tm x = some (.c (.l ts) xs)) (hy : rd tm y = some (.c (.i k) l)) (hz : rd tm z = some (.c (.i k') h)) (ht : linfo P t = some (e, m)) (hm : (m == ts.sz) = true) (h0 : 0 ≤ l) (h1 : l ≤ h) (h2 : h ≤ xs.length) :
    Val P X tm ob ⟨dst, .slice t x (some y) (some z) none, ty, pos, after, gd⟩ (.c (.l ts) ((xs.drop l.toNat).take (h.toNat - l.toNat))) := fun a w G hG hv => by
  obtain rfl : m = ts.sz := by simpa using hm
  have hr := hv x _ hx
  simp only [VR, RS] at hr
  obtain ⟨A, c, hr, hc, hmx, hrow⟩ := hr
  refine ⟨sliced A l.toNat h.toNat c ts.sz, fun w' _ => ?_, ?_⟩
  · have eh : (h.toNat : Int) = h := Int.toNat_of_nonneg (by omega)
    simp only [execOp, Sem.run_bind, Option.map_some, Option.map_none, hr, (vr_i (hv y _ hy)).1, (vr_i (hv z _ hz)).1]
    rw [run_sl ht A xs.length c _ _ l.toNat h.toNat c (by simp [Instr.sliceBounds, run_sliceBound, h0, (by omega : 0 ≤ h), (by omega : h ≤ (c : Int)), eh, h1])]
    simp only [Result.andThen_ok, Sem.run_pure]
  · have := RS_cut (l := l.toNat) (n := h.toNat - l.toNat) hc hmx hrow (by omega)
    rw [show l.toNat + (h.toNat - l.toNat) = h.toNat by omega] at this
    exact this

/-- Tuples, pointers, function values. -/
theorem xtr {x : Operand} {as : List AV} {i : Nat} {av : AV} (hx : rd tm x = some (.tup as)) (hi : as[i]? = some av) : Val P X tm ob ⟨dst, .extract x i, ty, pos, after, gd⟩ av := fun a w G hG hv => by
  have hr := hv x _ hx
  simp only [VR] at hr
  obtain ⟨vs, hr, hvs⟩ := hr
  obtain ⟨v, h1, h2⟩ := VRs_get hvs hi
  exact ⟨v, fun w' _ => by simp [execOp, hr, Instr.extract, h1], h2⟩
theorem ncb {x : Operand} {k off : Nat} (hx : rd tm x = some (.bp k off)) : Val P X tm ob ⟨dst, .nilCheck x, ty, pos, after, gd⟩ (.bp k off) := fun a w G hG hv => by
  have hr := hv x _ hx
  refine ⟨_, fun w' _ => ?_, hr⟩
  simp only [VR] at hr
  obtain ⟨b, f, _, hr⟩ := hr
  simp [execOp, hr]
theorem nce {x : Operand} {k i sz off : Nat} (hx : rd tm x = some (.ep k i sz off)) : Val P X tm ob ⟨dst, .nilCheck x, ty, pos, after, gd⟩ (.ep k i sz off) := fun a w G hG hv => by
  have hr := hv x _ hx
  refine ⟨_, fun w' _ => ?_, hr⟩
  simp only [VR] at hr
  obtain ⟨b, n, c, f, _, hr⟩ := hr
  simp [execOp, hr]
theorem ncr {x : Operand} {ts : Tys} {d : ts.den} (hx : rd tm x = some (.rp ts d)) : Val P X tm ob ⟨dst, .nilCheck x, ty, pos, after, gd⟩ (.rp ts d) := fun a w G hG hv => by
  have hr := hv x _ hx
  refine ⟨_, fun w' _ => ?_, hr⟩
  simp only [VR] at hr
  obtain ⟨b, p, cs, hr, _⟩ := hr
  simp [execOp, hr]
theorem ncf {x : Operand} {g : Nat} {cs : List AV} (hx : rd tm x = some (.fn g cs)) : Val P X tm ob ⟨dst, .nilCheck x, ty, pos, after, gd⟩ (.fn g cs) := fun a w G hG hv => by
  have hr := hv x _ hx
  refine ⟨_, fun w' _ => ?_, hr⟩
  simp only [VR] at hr
  obtain ⟨vs, hr, _⟩ := hr
  simp [execOp, hr]
inductive Rds (tm : Tm) : List Operand → List AV → Prop
  | n : Rds tm [] []
  | c {x : Operand} {a : AV} {xs : List Operand} {as : List AV} (h : rd tm x = some a) (r : Rds tm xs as) : Rds tm (x :: xs) (a :: as)
theorem rds_ok {w : World} {ok : Nat → Prop} {G : Gh} {a : Act} (hv : ∀ x av, rd tm x = some av → VR w ok G av (a.eval x)) {xs : List Operand} {as : List AV} (h : Rds tm xs as) : VRs w ok G as (xs.map a.eval) := by
  induction h with
  | n => rfl
  | c h r ih => exact ⟨_, _, rfl, hv _ _ h, ih⟩
theorem mkf {g : Nat} {xs : List Operand} {as : List AV} (h : Rds tm xs as) : Val P X tm ob ⟨dst, .makeFunc (.func g) #[] xs.toArray, ty, pos, after, gd⟩ (.fn g as) := fun a w G hG hv =>
  ⟨.func (.func g) #[] ⟨xs.map a.eval⟩, fun w' _ => by simp [execOp, Instr.makeFunc], by simp only [VR]; exact ⟨_, rfl, rds_ok hv h⟩⟩
theorem run_eq_nil {w : World} {t e : TypeId} {A : Option Addr} {n c : Nat} (h : P.underlying t = some (.slice e)) : (Op.equal t (.slice A n c) (.slice none 0 0)).run P w = .ok A.isNone w := by
  show (Op.equalIn (9999 + 1) t (.slice A n c) (.slice none 0 0)).run P w = _
  unfold Op.equalIn
  cases A <;> simp only [Sem.run_bind, run_underlying h, Result.andThen_ok, Sem.run_pure, Option.isNone]
/-- nil beside a list. -/
theorem oeqn {ops : Array Oper} {rest : List Oper} {x : Operand} {xt yt : TypeId} {d : Nat} {ts : Tys} {xs : List ts.den} {e : TypeId} {n : Nat}
    (hw : Wn ops ⟨some d, .binOp .eql xt x (.const (.slice none 0 0)) yt, ty, pos, after, gd⟩ tm) (hN : d < X.N) (hx : rd tm x = some (.c (.l ts) xs)) (ht : linfo P xt = some (e, n))
    (hr : ∀ z : Bool, (z = true → xs = []) → OV P X ops Q rest ((d, .c .b z) :: tm) ob) : OV P X ops Q (⟨some d, .binOp .eql xt x (.const (.slice none 0 0)) yt, ty, pos, after, gd⟩ :: rest) tm ob := fun a w hs => by
  obtain ⟨G, hG, hv⟩ := hs.ex
  have h := rd_ok hv hx
  simp only [VR, RS] at h
  obtain ⟨A, c, h, hc, hm, hrow⟩ := h
  have hz : A.isNone = true → xs = [] := fun hA => by
    rcases Classical.em (xs = []) with h | h
    · exact h
    · obtain ⟨b, p, rfl, _⟩ := hrow h; cases hA
  refine wpList_step fun K hK => ?_
  rw [if_pos (wn_ok hw hs)]
  unfold Oper.wp
  rw [run_bin (v := .slice none 0 0) h rfl guard_sl (by simp only [binOp, Sem.run_bind, run_eq_nil (linfo_u ht).1, Result.andThen_ok, Sem.run_pure]; rfl)]
  exact hK _ _ (hr A.isNone hz _ _ (sim_put hs hG hv hN vrb))
theorem onen {ops : Array Oper} {rest : List Oper} {x : Operand} {xt yt : TypeId} {d : Nat} {ts : Tys} {xs : List ts.den} {e : TypeId} {n : Nat}
    (hw : Wn ops ⟨some d, .binOp .neq xt x (.const (.slice none 0 0)) yt, ty, pos, after, gd⟩ tm) (hN : d < X.N) (hx : rd tm x = some (.c (.l ts) xs)) (ht : linfo P xt = some (e, n))
    (hr : ∀ z : Bool, (z = true → xs = []) → OV P X ops Q rest ((d, .c .b (!z)) :: tm) ob) : OV P X ops Q (⟨some d, .binOp .neq xt x (.const (.slice none 0 0)) yt, ty, pos, after, gd⟩ :: rest) tm ob := fun a w hs => by
  obtain ⟨G, hG, hv⟩ := hs.ex
  have h := rd_ok hv hx
  simp only [VR, RS] at h
  obtain ⟨A, c, h, hc, hm, hrow⟩ := h
  have hz : A.isNone = true → xs = [] := fun hA => by
    rcases Classical.em (xs = []) with h | h
    · exact h
    · obtain ⟨b, p, rfl, _⟩ := hrow h; cases hA
  refine wpList_step fun K hK => ?_
  rw [if_pos (wn_ok hw hs)]
  unfold Oper.wp
  rw [run_bin (v := .slice none 0 0) h rfl guard_sl (by simp only [binOp, Sem.run_bind, run_eq_nil (linfo_u ht).1, Result.andThen_ok, Sem.run_pure]; rfl)]
  exact hK _ _ (hr A.isNone hz _ _ (sim_put hs hG hv hN vrb))

/-- How long it is at most. -/
theorem ofact {ops : Array Oper} {l : List Oper} {t : Nat} {ts : Tys} {xs : List ts.den} (ht : get tm t = some (.c (.l ts) xs)) (h : xs.length ≤ 9223372036854775807 → OV P X ops Q l tm ob) : OV P X ops Q l tm ob := fun a w hs => by
  obtain ⟨G, hG, hv⟩ := hs.ex
  have h' := (hv t _ ht).2
  simp only [VR, RS] at h'
  obtain ⟨A, c, _, hc, hm, _⟩ := h'
  exact h (by omega) a w hs
theorem ofacts {ops : Array Oper} {l : List Oper} {t : Nat} {xs : List UInt8} (ht : get tm t = some (.c .s xs)) (h : xs.length ≤ 9223372036854775807 → OV P X ops Q l tm ob) : OV P X ops Q l tm ob := fun a w hs => by
  obtain ⟨G, hG, hv⟩ := hs.ex
  exact h (vr_s (hv t _ ht).2).2 a w hs
theorem ofacto {ops : Array Oper} {l : List Oper} {k : Nat} {d : Bool} {e : TypeId} {ts : Tys} {xs : List ts.den} (ho : ob[k]? = some (.arr d e ts xs)) (h : xs.length ≤ 9223372036854775807 → OV P X ops Q l tm ob) : OV P X ops Q l tm ob := fun a w hs => by
  obtain ⟨G, hG, hv⟩ := hs.ex
  have hkl : k < G.length := by rw [hG.len]; exact (List.getElem?_eq_some_iff.1 ho).1
  obtain ⟨inner, hr⟩ := or_head (hG.ob k _ G[k] ho (List.getElem?_eq_getElem hkl))
  obtain ⟨A, c, _, hc, hm⟩ := own_form hr
  exact h (by omega) a w hs
theorem ofacti {ops : Array Oper} {l : List Oper} {t : Nat} {k : IntKind} {x : Int} (ht : get tm t = some (.c (.i k) x)) (h : k.wrap x = x → OV P X ops Q l tm ob) : OV P X ops Q l tm ob := fun a w hs => by
  obtain ⟨G, hG, hv⟩ := hs.ex
  exact h (vr_i (hv t _ ht).2).2 a w hs
/-- The facts at a function's beginning. -/
theorem cfact {c : Code} (h : ∀ ops : Array Oper, ∀ Q', Q' = (fun (_ : Exit) a w => c.wp P Q a w) → OV P X ops Q' [] tm ob) : CV P X c Q tm ob := fun a w hs => h #[] _ rfl a w hs
theorem ofin {ops : Array Oper} {c : Code} {Q' : Exit → Act → World → Prop} (e : Q' = (fun (_ : Exit) a w => c.wp P Q a w)) (h : CV P X c Q tm ob) : OV P X ops Q' [] tm ob := fun a w hs => by subst e; exact h a w hs
end
/-- Whole numbers that fit. -/
theorem w64 {n : Int} (h1 : -9223372036854775808 ≤ n) (h2 : n ≤ 9223372036854775807) : IntKind.i64.wrap n = n := by
  simp only [IntKind.wrap, IntKind.bits, IntKind.signed]; simp; omega
theorem w64b {n : Int} (h : IntKind.i64.wrap n = n) : -9223372036854775808 ≤ n ∧ n ≤ 9223372036854775807 := by
  simp only [IntKind.wrap, IntKind.bits, IntKind.signed] at h; simp at h; omega
section
variable {P : Program} {X : Cx} {tm : Tm} {ob : List Ob} {dst : Option Nat} {ty : TypeId} {pos : String} {after : Array Edge} {gd : Option (Nat × Bool)}
theorem val_eq {o : Oper} {av av' : AV} (h : Val P X tm ob o av) (e : av = av') : Val P X tm ob o av' := e ▸ h
theorem iadd {x y : Operand} {xt yt : TypeId} {m n : Int} (hx : rd tm x = some (.c (.i .i64) m)) (hy : rd tm y = some (.c (.i .i64) n)) (h1 : -9223372036854775808 ≤ m + n) (h2 : m + n ≤ 9223372036854775807) :
    Val P X tm ob ⟨dst, .binOp .add xt x y yt, ty, pos, after, gd⟩ (.c (.i .i64) (m + n)) := val_eq (ibin hx hy rfl) (by rw [w64 h1 h2])
theorem isub {x y : Operand} {xt yt : TypeId} {m n : Int} (hx : rd tm x = some (.c (.i .i64) m)) (hy : rd tm y = some (.c (.i .i64) n)) (h1 : -9223372036854775808 ≤ m - n) (h2 : m - n ≤ 9223372036854775807) :
    Val P X tm ob ⟨dst, .binOp .sub xt x y yt, ty, pos, after, gd⟩ (.c (.i .i64) (m - n)) := val_eq (ibin hx hy rfl) (by rw [w64 h1 h2])
theorem imul {x y : Operand} {xt yt : TypeId} {m n : Int} (hx : rd tm x = some (.c (.i .i64) m)) (hy : rd tm y = some (.c (.i .i64) n)) (h1 : -9223372036854775808 ≤ m * n) (h2 : m * n ≤ 9223372036854775807) :
    Val P X tm ob ⟨dst, .binOp .mul xt x y yt, ty, pos, after, gd⟩ (.c (.i .i64) (m * n)) := val_eq (ibin hx hy rfl) (by rw [w64 h1 h2])
end
end Go.Proofs.YtifpekpmnlcmoaaE
