/- The engine, part 6: operations that read: lengths, addresses, loads, cuts; results taken apart. -/
import Derived.Test.YtifpekpmnlcmoaaE5
set_option linter.unusedVariables false
set_option linter.unusedSimpArgs false
namespace Go.Proofs.YtifpekpmnlcmoaaE
open Go Go.RowKit

/-- A type's shape: is it of several cells, and of how many. -/
def tinfo (P : Program) (t : TypeId) : Option (Bool × Nat) :=
  match P.underlying t, P.info? t with
  | some d, some i => some ((match d with | .struct _ | .array _ _ => true | _ => false), i.size)
  | _, _ => none
structure TI (P : Program) (t : TypeId) (ag : Bool) (n : Nat) : Prop where
  ag : ∀ w : World, (isAgg t).run P w = .ok ag w
  sz : ∀ w : World, (sizeOf t).run P w = .ok n w
theorem ti {P : Program} {t : TypeId} {ag : Bool} {n : Nat} (h : tinfo P t = some (ag, n)) : TI P t ag n := by
  unfold tinfo at h
  cases hu : P.underlying t with
  | none => simp [hu] at h
  | some d =>
    cases hi : P.info? t with
    | none => simp [hu, hi] at h
    | some i =>
      simp only [hu, hi, Option.some.injEq, Prod.mk.injEq] at h
      obtain ⟨h1, h2⟩ := h
      refine ⟨fun w => ?_, fun w => by simp only [sizeOf, typeInfo, Sem.run_bind, run_program, Result.andThen_ok, hi, Sem.run_pure, h2]⟩
      simp only [isAgg, Sem.run_bind, run_underlying hu, Result.andThen_ok]
      cases d <;> simp only [Sem.run_pure] <;> rw [← h1]
/-- A field's place. -/
def finfo (P : Program) (s : TypeId) (f : Nat) : Option Nat :=
  match P.underlying s with
  | some (.struct fs) => match fs[f]? with
    | some fd => match P.info? fd.type with
      | some i => if i.size = 0 then none else some fd.offset
      | none => none
    | none => none
  | _ => none
/-- A slice type's elements: type, cells. -/
def linfo (P : Program) (t : TypeId) : Option (TypeId × Nat) :=
  match P.underlying t with
  | some (.slice e) => (P.info? e).map fun i => (e, i.size)
  | _ => none
theorem linfo_u {P : Program} {t e : TypeId} {n : Nat} (h : linfo P t = some (e, n)) : P.underlying t = some (.slice e) ∧ ∀ w : World, (sizeOf e).run P w = .ok n w := by
  unfold linfo at h
  split at h
  · rename_i e' hu
    cases hi : P.info? e' with
    | none => simp [hi] at h
    | some i =>
      simp only [hi, Option.map_some, Option.some.injEq, Prod.mk.injEq] at h
      obtain ⟨rfl, h2⟩ := h
      exact ⟨hu, fun w => by simp only [sizeOf, typeInfo, Sem.run_bind, run_program, Result.andThen_ok, hi, Sem.run_pure, h2]⟩
  · cases h

theorem At_drop {w : World} {b p : Nat} {cs : List Value} (h : At w b p cs) (n : Nat) : At w b (p + n) (cs.drop n) := fun i u hu => by
  rw [List.getElem?_drop] at hu
  have := h (n + i) u hu
  rwa [← Nat.add_assoc] at this
theorem run_cells {P : Program} {w : World} {b p : Nat} {cs : List Value} (h : At w b p cs) : (loadCells ⟨b, p, none⟩ cs.length).run P w = .ok ⟨cs⟩ w :=
  run_loadCells_list (P := P) w ⟨b, p, none⟩ cs (fun j v hv => by rw [Addr.add_lit]; exact h j v hv)

/-- The first n cells as abstract values. -/
@[reducible] def avs : (n : Nat) → (ts : Tys) → ts.den → List AV
  | 0, _, _ => []
  | _ + 1, .nil, _ => []
  | n + 1, .cons t ts, x => .c t x.1 :: avs n ts x.2
theorem avs_ok {w : World} {ok : Nat → Prop} {G : Gh} : ∀ (n : Nat) (ts : Tys) (x : ts.den) (cs : List Value), RSs w ok ts x cs → VRs w ok G (avs n ts x) (cs.take n)
  | 0, _, _, cs, h => by simp only [avs, VRs, List.take_zero]
  | _ + 1, .nil, _, cs, h => by simp only [RSs] at h; subst h; simp only [avs, VRs, List.take_nil]
  | n + 1, .cons t ts, (x, xs), cs, h => by
    simp only [RSs] at h
    obtain ⟨v, cs', rfl, h1, h2⟩ := h
    simp only [avs, VRs, List.take_succ_cons]
    exact ⟨v, _, rfl, h1, avs_ok n ts xs cs' h2⟩
theorem dropd_ok {w : World} {ok : Nat → Prop} : ∀ (n : Nat) (ts : Tys) (x : ts.den) (cs : List Value), n ≤ ts.sz → RSs w ok ts x cs → RSs w ok (Tys.drop n ts) (Tys.dropd n ts x) (cs.drop n)
  | 0, _, _, cs, _, h => h
  | n + 1, .nil, _, cs, hn, h => by simp only [Tys.sz] at hn; omega
  | n + 1, .cons t ts, (x, xs), cs, hn, h => by
    simp only [RSs] at h
    obtain ⟨v, cs', rfl, h1, h2⟩ := h
    exact dropd_ok n ts xs cs' (by simp only [Tys.sz] at hn; omega) h2

section
variable {P : Program} {X : Cx} {tm : Tm} {ob : List Ob} {dst : Option Nat} {ty : TypeId} {pos : String} {after : Array Edge} {gd : Option (Nat × Bool)}

theorem kp_at {w w' : World} {S : List Nat} (h : Kp S w w') {b p : Nat} {cs : List Value} (hb : b < w.heap.size) (hn : b ∉ S) (ha : At w b p cs) : At w' b p cs := At_mono ha (h.block b hb hn)

/-- len -/
theorem lens {x : Operand} {at_ : TypeId} {m : List UInt8} (hx : rd tm x = some (.c .s m)) (ht : P.underlying at_ = some .string) :
    Val P X tm ob ⟨dst, .call { callee := .builtin .len, args := #[x], argTypes := #[at_] }, ty, pos, after, gd⟩ (.c (.i .i64) (m.length : Int)) := fun a w G hG hv => by
  obtain ⟨h1, h2⟩ := vr_s (hv x _ hx)
  have hs : (⟨⟨m⟩⟩ : ByteArray).size = m.length := by simp [ByteArray.size]
  refine ⟨.int .i64 m.length, fun w' _ => by simp [execOp, resolve, invoke, builtin, Builtin.len_, h1, str, run_underlying ht, goInt, hs], vri ?_⟩
  simp only [IntKind.wrap, IntKind.bits, IntKind.signed]; simp; omega
theorem wrap_len {n : Nat} (h : n ≤ 9223372036854775807) : IntKind.i64.wrap (n : Int) = n := by
  simp only [IntKind.wrap, IntKind.bits, IntKind.signed]; simp; omega
theorem run_len {a : Act} {w : World} {x : Operand} {at_ e : TypeId} {A : Option Addr} {n c : Nat} (h : a.eval x = .slice A n c) (ht : P.underlying at_ = some (.slice e)) :
    (execOp a.eval ⟨dst, .call { callee := .builtin .len, args := #[x], argTypes := #[at_] }, ty, pos, after, gd⟩).run P w = .ok (.value (.int .i64 n)) w := by
  simp [execOp, resolve, invoke, builtin, Builtin.len_, h, run_underlying ht, goInt]
theorem lenl {x : Operand} {at_ : TypeId} {e : TypeId} {n : Nat} {ts : Tys} {xs : List ts.den} (hx : rd tm x = some (.c (.l ts) xs)) (ht : linfo P at_ = some (e, n)) :
    Val P X tm ob ⟨dst, .call { callee := .builtin .len, args := #[x], argTypes := #[at_] }, ty, pos, after, gd⟩ (.c (.i .i64) (xs.length : Int)) := fun a w G hG hv => by
  have h := hv x _ hx
  simp only [VR, RS] at h
  obtain ⟨A, c, h, hc, hm, _⟩ := h
  exact ⟨_, fun w' _ => run_len h (linfo_u ht).1, vri (wrap_len (by omega))⟩
theorem lennl {x : Operand} {at_ : TypeId} {e : TypeId} {n : Nat} (hx : rd tm x = some .nl) (ht : linfo P at_ = some (e, n)) :
    Val P X tm ob ⟨dst, .call { callee := .builtin .len, args := #[x], argTypes := #[at_] }, ty, pos, after, gd⟩ (.c (.i .i64) 0) := fun a w G hG hv => by
  have h := hv x _ hx
  simp only [VR] at h
  exact ⟨_, fun w' _ => run_len h (linfo_u ht).1, vri rfl⟩
theorem or_head {w : World} {ok : Nat → Prop} {G : Gh} {d : Bool} {e : TypeId} {ts : Tys} {xs : List ts.den} {g : Value × List Nat} (h : OR w ok G (.arr d e ts xs) g) : ∃ inner, w.ownsRow 0 e ts.sz g.1 xs.length inner := by
  cases d with
  | false => simp only [OR] at h; obtain ⟨inner, h, _⟩ := h; exact ⟨inner, h⟩
  | true => simp only [OR] at h; obtain ⟨inner, fs, h, _⟩ := h; exact ⟨inner, h⟩
theorem own_form {w : World} {base e sz n : Nat} {v : Value} {xs : List Value} (h : w.ownsRow base e sz v n xs) : ∃ A c, v = .slice A n c ∧ n ≤ c ∧ c ≤ 9223372036854775807 := by
  rcases h.2 with ⟨rfl, rfl⟩ | ⟨g, cap, cur, rfl, _, _, h1, h2, _⟩
  · exact ⟨none, 0, rfl, Nat.le_refl _, by omega⟩
  · exact ⟨_, cap, rfl, h1, by simpa only [maxLen] using h2⟩
theorem leno {x : Operand} {at_ : TypeId} {e e' : TypeId} {n k : Nat} {d : Bool} {ts : Tys} {xs : List ts.den} (hx : rd tm x = some (.own k)) (ho : ob[k]? = some (.arr d e' ts xs)) (ht : linfo P at_ = some (e, n)) :
    Val P X tm ob ⟨dst, .call { callee := .builtin .len, args := #[x], argTypes := #[at_] }, ty, pos, after, gd⟩ (.c (.i .i64) (xs.length : Int)) := fun a w G hG hv => by
  have h := hv x _ hx
  simp only [VR] at h
  obtain ⟨g, hg, h⟩ := h
  obtain ⟨inner, hr⟩ := or_head (hG.ob k _ g ho hg)
  obtain ⟨A, c, he, hc, hm⟩ := own_form hr
  rw [he] at h
  exact ⟨_, fun w' _ => run_len h (linfo_u ht).1, vri (wrap_len (by omega))⟩

/-- addresses -/
theorem run_field {w : World} {s : TypeId} {f off b p : Nat} (h : finfo P s f = some off) : (Instr.fieldAt s (.pointer (some ⟨b, p, none⟩)) f).run P w = .ok (.pointer (some ⟨b, p + off, none⟩)) w := by
  unfold finfo at h
  split at h
  · rename_i fs hu
    split at h
    · rename_i fd hf
      split at h
      · rename_i i hi
        split at h
        · cases h
        · rename_i hz
          simp only [Option.some.injEq] at h
          subst h
          simp [Instr.fieldAt, run_underlying hu, hf, Instr.sureAddr, fieldPlace, sizeOf, typeInfo, hi, hz, Addr.add_lit]
      · cases h
    · cases h
  · cases h
theorem fab {s : TypeId} {x : Operand} {f k o off : Nat} (hx : rd tm x = some (.bp k o)) (h : finfo P s f = some off) : Val P X tm ob ⟨dst, .fieldAddr s x f, ty, pos, after, gd⟩ (.bp k (o + off)) := fun a w G hG hv => by
  have hr := hv x _ hx
  simp only [VR] at hr
  obtain ⟨b, g, hg, hr⟩ := hr
  refine ⟨.pointer (some ⟨b, o + off, none⟩), fun w' _ => by simp only [execOp, hr, Sem.run_bind, run_field h, Result.andThen_ok, Sem.run_pure], by simp only [VR]; exact ⟨b, g, hg, rfl⟩⟩
theorem fae {s : TypeId} {x : Operand} {f k i sz o off : Nat} (hx : rd tm x = some (.ep k i sz o)) (h : finfo P s f = some off) : Val P X tm ob ⟨dst, .fieldAddr s x f, ty, pos, after, gd⟩ (.ep k i sz (o + off)) := fun a w G hG hv => by
  have hr := hv x _ hx
  simp only [VR] at hr
  obtain ⟨b, n, c, g, hg, hr⟩ := hr
  refine ⟨.pointer (some ⟨b, i * sz + (o + off), none⟩), fun w' _ => by simp only [execOp, hr, Sem.run_bind, run_field h, Result.andThen_ok, Sem.run_pure, Nat.add_assoc], by simp only [VR]; exact ⟨b, n, c, g, hg, rfl⟩⟩
theorem far {s : TypeId} {x : Operand} {f off : Nat} {ts : Tys} {xd : ts.den} (hx : rd tm x = some (.rp ts xd)) (h : finfo P s f = some off) (hn : off ≤ ts.sz) : Val P X tm ob ⟨dst, .fieldAddr s x f, ty, pos, after, gd⟩ (.rp (Tys.drop off ts) (Tys.dropd off ts xd)) := fun a w G hG hv => by
  have hr := hv x _ hx
  simp only [VR] at hr
  obtain ⟨b, p, cs, hr, hok, hlt, hd, hat⟩ := hr
  refine ⟨.pointer (some ⟨b, p + off, none⟩), fun w' _ => by simp only [execOp, hr, Sem.run_bind, run_field h, Result.andThen_ok, Sem.run_pure], by simp only [VR]; exact ⟨b, p + off, cs.drop off, rfl, hok, hlt, dropd_ok off ts xd cs hn hd, At_drop hat off⟩⟩
theorem run_index {a : Act} {w : World} {t e : TypeId} {x y : Operand} {b p n c m : Nat} {k : IntKind} {i : Int} (h : linfo P t = some (e, m)) (hx : a.eval x = .slice (some ⟨b, p, none⟩) n c) (hy : a.eval y = .int k i) (h0 : 0 ≤ i) (h1 : i < n) :
    (execOp a.eval ⟨dst, .indexAddr t x y, ty, pos, after, gd⟩).run P w = .ok (.value (.pointer (some ⟨b, p + i.toNat * m, none⟩))) w := by
  obtain ⟨hu, hs⟩ := linfo_u h
  simp only [execOp, Instr.indexAt, hx, hy, asIntOf, Sem.run_bind, Sem.run_pure, Result.andThen_ok, run_underlying hu]
  have hc : (0 ≤ i ∧ i < (n : Int)) := ⟨h0, h1⟩
  simp only [if_pos hc, Sem.run_bind, hs, Result.andThen_ok, Sem.run_pure, Addr.add_lit]
theorem ixl {t e : TypeId} {x y : Operand} {m : Nat} {k : IntKind} {i : Int} {ts : Tys} {xs : List ts.den} (hx : rd tm x = some (.c (.l ts) xs)) (hy : rd tm y = some (.c (.i k) i)) (h : linfo P t = some (e, m)) (hm : (m == ts.sz) = true) (h0 : 0 ≤ i) (h1 : i < xs.length) :
    Val P X tm ob ⟨dst, .indexAddr t x y, ty, pos, after, gd⟩ (.rp ts (ix ts.z xs i)) := fun a w G hG hv => by
  obtain rfl : m = ts.sz := by simpa using hm
  have hr := hv x _ hx
  simp only [VR, RS] at hr
  obtain ⟨A, c, hr, hc, hmx, hrow⟩ := hr
  have hj : xs[i.toNat]? = some (ix ts.z xs i) := by
    have hlt : i.toNat < xs.length := by omega
    simp only [ix, List.getD_eq_getElem?_getD, List.getElem?_eq_getElem hlt, Option.getD_some]
  obtain ⟨b, p, rfl, hok, hlt, hx'⟩ := hrow (by intro he; subst he; simp at h1; omega)
  obtain ⟨cs, hcs, hat⟩ := hx' _ _ hj
  exact ⟨_, fun w' _ => run_index h hr (vr_i (hv y _ hy)).1 h0 h1, by simp only [VR]; exact ⟨b, _, cs, rfl, hok, hlt, hcs, hat⟩⟩
theorem ixo {t e e' : TypeId} {x y : Operand} {m j : Nat} {k : IntKind} {i : Int} {d : Bool} {ts : Tys} {xs : List ts.den} (hx : rd tm x = some (.own j)) (ho : ob[j]? = some (.arr d e' ts xs)) (hy : rd tm y = some (.c (.i k) i)) (h : linfo P t = some (e, m)) (hm : (m == ts.sz) = true) (h0 : 0 ≤ i) (h1 : i < xs.length) :
    Val P X tm ob ⟨dst, .indexAddr t x y, ty, pos, after, gd⟩ (.ep j i.toNat ts.sz 0) := fun a w G hG hv => by
  obtain rfl : m = ts.sz := by simpa using hm
  have hr := hv x _ hx
  simp only [VR] at hr
  obtain ⟨⟨u, f⟩, hg, hr⟩ := hr
  obtain ⟨inner, hrow⟩ := or_head (hG.ob j _ _ ho hg)
  rcases hrow.2 with ⟨hu, h3⟩ | ⟨g, cap, cur, hu, _⟩
  · omega
  · simp only at hu
    subst hu
    refine ⟨_, fun w' _ => run_index h hr (vr_i (hv y _ hy)).1 h0 h1, by simp only [VR]; exact ⟨g, _, _, f, hg, by simp⟩⟩

/-- loads -/
theorem run_load1 {a : Act} {w : World} {t : TypeId} {x : Operand} {b p : Nat} {v : Value} (hx : a.eval x = .pointer (some ⟨b, p, none⟩)) (ht : TI P t false 1) (hc : w.cell? ⟨b, p, none⟩ = some v) :
    (execOp a.eval ⟨dst, .load t x, ty, pos, after, gd⟩).run P w = .ok (.value v) w := by
  simp only [execOp, Instr.loadAt, Instr.sureAddr, loadVar, hx, Sem.run_bind, Sem.run_pure, Result.andThen_ok, ht.ag, Bool.false_eq_true, if_false]
  simp [Go.load, Sem.run, hc]
theorem run_loadn {a : Act} {w : World} {t : TypeId} {x : Operand} {b p : Nat} {cs : List Value} {n : Nat} (hx : a.eval x = .pointer (some ⟨b, p, none⟩)) (ht : TI P t true n) (hn : cs.length = n) (hc : At w b p cs) :
    (execOp a.eval ⟨dst, .load t x, ty, pos, after, gd⟩).run P w = .ok (.value (.agg ⟨cs⟩)) w := by
  subst hn
  simp only [execOp, Instr.loadAt, Instr.sureAddr, loadVar, hx, Sem.run_bind, Sem.run_pure, Result.andThen_ok, ht.ag, if_true, ht.sz, run_cells hc]
theorem ldr {t : TypeId} {x : Operand} {sy : Ty} {ts : Tys} {xd : sy.den × ts.den} (hx : rd tm x = some (.rp (.cons sy ts) xd)) (ht : TI P t false 1) : Val P X tm ob ⟨dst, .load t x, ty, pos, after, gd⟩ (.c sy xd.1) := fun a w G hG hv => by
  have hr := hv x _ hx
  obtain ⟨x1, x2⟩ := xd
  simp only [VR, RSs] at hr
  obtain ⟨b, p, cs, hr, hok, hlt, ⟨v, cs', rfl, h1, h2⟩, hat⟩ := hr
  exact ⟨v, fun w' hw => run_load1 hr ht (by have := (kp_at hw hlt hok.2 hat) 0 v rfl; simpa using this), h1⟩
theorem ldrn {t : TypeId} {x : Operand} {n : Nat} {ts : Tys} {xd : ts.den} (hx : rd tm x = some (.rp ts xd)) (ht : TI P t true n) (hn : n ≤ ts.sz) : Val P X tm ob ⟨dst, .load t x, ty, pos, after, gd⟩ (.agg (avs n ts xd)) := fun a w G hG hv => by
  have hr := hv x _ hx
  simp only [VR] at hr
  obtain ⟨b, p, cs, hr, hok, hlt, hd, hat⟩ := hr
  have hl := RSs_len ts xd cs hd
  refine ⟨.agg ⟨cs.take n⟩, fun w' hw => run_loadn hr ht (by rw [List.length_take]; omega) (kp_at hw hlt hok.2 (fun i u hu => hat i u ?_)), by simp only [VR]; exact ⟨_, rfl, avs_ok n ts xd cs hd⟩⟩
  rw [List.getElem?_take] at hu
  split at hu
  · exact hu
  · cases hu

theorem VRs_get {w : World} {ok : Nat → Prop} {G : Gh} : ∀ {as : List AV} {vs : List Value} {i : Nat} {av : AV}, VRs w ok G as vs → as[i]? = some av → ∃ v, vs[i]? = some v ∧ VR w ok G av v
  | [], _, _, _, _, h => by simp at h
  | a :: as, vs, 0, av, h, hi => by
    simp only [VRs] at h
    obtain ⟨v, vs', rfl, h1, h2⟩ := h
    simp only [List.getElem?_cons_zero, Option.some.injEq] at hi
    subst hi
    exact ⟨v, rfl, h1⟩
  | a :: as, vs, i + 1, av, h, hi => by
    simp only [VRs] at h
    obtain ⟨v, vs', rfl, h1, h2⟩ := h
    simp only [List.getElem?_cons_succ] at hi ⊢
    exact VRs_get h2 hi
theorem VRs_len {w : World} {ok : Nat → Prop} {G : Gh} : ∀ {as : List AV} {vs : List Value}, VRs w ok G as vs → vs.length = as.length
  | [], _, h => by simp only [VRs] at h; subst h; rfl
  | a :: as, vs, h => by
    simp only [VRs] at h
    obtain ⟨v, vs', rfl, h1, h2⟩ := h
    simp [VRs_len h2]
theorem VRs_drop {w : World} {ok : Nat → Prop} {G : Gh} : ∀ {as : List AV} {vs : List Value} (n : Nat), VRs w ok G as vs → VRs w ok G (as.drop n) (vs.drop n)
  | as, vs, 0, h => h
  | [], _, n + 1, h => by simp only [VRs] at h; subst h; simp [VRs]
  | a :: as, vs, n + 1, h => by
    simp only [VRs] at h
    obtain ⟨v, vs', rfl, h1, h2⟩ := h
    exact VRs_drop n h2
theorem VRs_take {w : World} {ok : Nat → Prop} {G : Gh} : ∀ {as : List AV} {vs : List Value} (n : Nat), VRs w ok G as vs → VRs w ok G (as.take n) (vs.take n)
  | as, vs, 0, h => by simp [VRs]
  | [], _, n + 1, h => by simp only [VRs] at h; subst h; simp [VRs]
  | a :: as, vs, n + 1, h => by
    simp only [VRs] at h
    obtain ⟨v, vs', rfl, h1, h2⟩ := h
    simp only [List.take_succ_cons, VRs]
    exact ⟨v, _, rfl, h1, VRs_take n h2⟩
theorem cell_blk {w : World} {b i : Nat} {vs : List Value} {t : TypeId} {fr : Nat × Nat} (h : w.heap[b]? = some (.cells ⟨vs⟩ t fr)) : w.cell? ⟨b, i, none⟩ = vs[i]? := by
  simp [World.cell?, h]
theorem fps_mem {G : Gh} {k : Nat} {g : Value × List Nat} (h : G[k]? = some g) {b : Nat} (hb : b ∈ g.2) : b ∈ fps G := List.mem_flatMap.2 ⟨g, List.mem_of_getElem? h, hb⟩
theorem ldb {t bt : TypeId} {x : Operand} {k off : Nat} {cells : List AV} {av : AV} (hx : rd tm x = some (.bp k off)) (ho : ob[k]? = some (.box bt cells)) (hc : cells[off]? = some av) (ht : TI P t false 1) : Val P X tm ob ⟨dst, .load t x, ty, pos, after, gd⟩ av := fun a w G hG hv => by
  have hr := hv x _ hx
  simp only [VR] at hr
  obtain ⟨b, g, hg, hr⟩ := hr
  have hor := hG.ob k _ _ ho hg
  simp only [OR] at hor
  obtain ⟨b', vs, he, hh, hvs, _⟩ := hor
  simp only [Prod.mk.injEq, Value.pointer.injEq, Option.some.injEq, Addr.mk.injEq, and_true] at he
  obtain ⟨rfl, rfl⟩ := he
  obtain ⟨v, hv1, hv2⟩ := VRs_get hvs hc
  have hlt := (hG.lt b (fps_mem hg (by simp))).1
  exact ⟨v, fun w' hw => run_load1 hr ht (by rw [cell_blk ((hw.block b hlt (hG.z b (fps_mem hg (by simp)))).trans hh)]; exact hv1), hv2⟩
theorem ldbn {t bt : TypeId} {x : Operand} {k off n : Nat} {cells : List AV} (hx : rd tm x = some (.bp k off)) (ho : ob[k]? = some (.box bt cells)) (ht : TI P t true n) (hn : off + n ≤ cells.length) : Val P X tm ob ⟨dst, .load t x, ty, pos, after, gd⟩ (.agg ((cells.drop off).take n)) := fun a w G hG hv => by
  have hr := hv x _ hx
  simp only [VR] at hr
  obtain ⟨b, g, hg, hr⟩ := hr
  have hor := hG.ob k _ _ ho hg
  simp only [OR] at hor
  obtain ⟨b', vs, he, hh, hvs, _⟩ := hor
  simp only [Prod.mk.injEq, Value.pointer.injEq, Option.some.injEq, Addr.mk.injEq, and_true] at he
  obtain ⟨rfl, rfl⟩ := he
  have hlt := (hG.lt b (fps_mem hg (by simp))).1
  have hl := VRs_len hvs
  refine ⟨.agg ⟨(vs.drop off).take n⟩, fun w' hw => run_loadn hr ht (by simp; omega) (fun i u hu => ?_), by simp only [VR]; exact ⟨_, rfl, VRs_take n (VRs_drop off hvs)⟩⟩
  rw [cell_blk ((hw.block b hlt (hG.z b (fps_mem hg (by simp)))).trans hh)]
  rw [List.getElem?_take] at hu
  split at hu
  · rwa [List.getElem?_drop] at hu
  · cases hu
/-- A cell of an element of an array of the call'sy own: no row. -/
theorem RDs_flat {w : World} : ∀ (ts : Tys) (x : ts.den) (cs : List Value) (fp : List Nat) (n : Nat) (sy : Ty) (ts' : Tys) (h : Tys.drop n ts = .cons sy ts'), sy.flat = true → RDs w ts x cs fp → ∃ v, cs[n]? = some v ∧ RS w (fun _ => False) sy (h ▸ Tys.dropd n ts x).1 v
  | .nil, _, cs, fp, n, sy, ts', h, hf, hr => by cases n <;> cases h
  | .cons t ts, (x, xs), cs, fp, 0, sy, ts', h, hf, hr => by
    cases h
    simp only [RDs] at hr
    obtain ⟨v, cs', f, f', rfl, rfl, h1, h2⟩ := hr
    refine ⟨v, rfl, ?_⟩
    cases t with
    | l _ => cases hf
    | i k => simp only [RD] at h1; exact h1.1
    | b => simp only [RD] at h1; exact h1.1
    | s => simp only [RD] at h1; exact h1.1
    | v => simp only [RD] at h1; exact h1.1
  | .cons t ts, (x, xs), cs, fp, n + 1, sy, ts', h, hf, hr => by
    simp only [RDs] at hr
    obtain ⟨v, cs', f, f', rfl, rfl, h1, h2⟩ := hr
    exact RDs_flat ts xs cs' f' n sy ts' h hf h2
theorem RS_flat {w : World} {ok ok' : Nat → Prop} {sy : Ty} {x : sy.den} {v : Value} (hf : sy.flat = true) (h : RS w ok sy x v) : RS w ok' sy x v := by
  cases sy with
  | l _ => cases hf
  | i k => exact h
  | b => exact h
  | s => exact h
  | v => exact h
end
end Go.Proofs.YtifpekpmnlcmoaaE
