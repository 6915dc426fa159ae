/- The engine, part 5: operations that only compute: numbers, truth values, texts. -/
import Derived.Test.YtifpekpmnlcmoaaE4
set_option linter.unusedVariables false
set_option linter.unusedSimpArgs false
namespace Go.Proofs.YtifpekpmnlcmoaaE
open Go Go.RowKit

theorem wrap_wrap (k : IntKind) (n : Int) : k.wrap (k.wrap n) = k.wrap n := by
  cases k <;> simp only [IntKind.wrap, IntKind.bits, IntKind.signed] <;> simp <;> (repeat' split) <;> omega
theorem wrap_mid {k : IntKind} {a b : Int} (h : k.wrap a = a) (hb : (0 ≤ b ∧ b ≤ a) ∨ (a ≤ b ∧ b ≤ 0)) : k.wrap b = b := by
  cases k <;> simp only [IntKind.wrap, IntKind.bits, IntKind.signed] at h ⊢ <;> simp at h ⊢ <;> (repeat' split at h) <;> (repeat' split) <;> omega

theorem tmod_mid (x y : Int) (hy : y ≠ 0) : (0 ≤ x.tmod y ∧ x.tmod y ≤ x) ∨ (x ≤ x.tmod y ∧ x.tmod y ≤ 0) := by
  have h := Int.mul_tdiv_add_tmod x y
  rcases Int.le_total 0 x with hx | hx
  · left
    refine ⟨Int.tmod_nonneg y hx, ?_⟩
    obtain ⟨m, rfl⟩ := Int.eq_ofNat_of_zero_le hx
    have : ((m : Int).tmod y).natAbs ≤ m := by rw [Int.natAbs_tmod]; exact Nat.mod_le _ _
    have h0 := Int.tmod_nonneg y hx
    omega
  · right
    obtain ⟨m, hm⟩ := Int.eq_ofNat_of_zero_le (show 0 ≤ -x by omega)
    have hx' : x = -(m : Int) := by omega
    subst hx'
    rw [Int.neg_tmod]
    have h0 := Int.tmod_nonneg y (Int.natCast_nonneg m)
    have : ((m : Int).tmod y).natAbs ≤ m := by rw [Int.natAbs_tmod]; exact Nat.mod_le _ _
    omega

theorem fdiv_mid (x : Int) (n : Nat) : (0 ≤ x.fdiv (2 ^ n) ∧ x.fdiv (2 ^ n) ≤ x) ∨ (x ≤ x.fdiv (2 ^ n) ∧ x.fdiv (2 ^ n) ≤ 0) := by
  have hp : (0 : Int) < 2 ^ n := Int.pow_pos (by decide)
  rw [Int.fdiv_eq_ediv_of_nonneg _ (Int.le_of_lt hp)]
  rcases Int.le_total 0 x with hx | hx
  · exact .inl ⟨Int.ediv_nonneg hx (Int.le_of_lt hp), Int.ediv_le_self _ hx⟩
  · right
    have h1 : x / 2 ^ n ≤ 0 := by
      have := Int.ediv_le_ediv hp hx
      simpa using this
    refine ⟨?_, h1⟩
    have h2 := Int.mul_ediv_add_emod x (2 ^ n)
    have h3 := Int.emod_nonneg x (show (2 : Int) ^ n ≠ 0 by omega)
    have h4 := Int.emod_lt_of_pos x hp
    -- x = p * q + r, q ≤ 0, p ≥ 1
    have h5 : (2 : Int) ^ n * (x / 2 ^ n) ≤ x / 2 ^ n := by
      have : (2 ^ n - 1) * (x / 2 ^ n) ≤ 0 := Int.mul_nonpos_of_nonneg_of_nonpos (by omega) h1
      have e : (2 ^ n - 1) * (x / 2 ^ n) = 2 ^ n * (x / 2 ^ n) - x / 2 ^ n := by rw [Int.sub_mul, Int.one_mul]
      omega
    rcases Int.lt_or_eq_of_le h1 with h6 | h6
    · -- q ≤ -1: p*q + r ≤ q
      have : (2 ^ n - 1) * (x / 2 ^ n + 1) ≤ 0 := Int.mul_nonpos_of_nonneg_of_nonpos (by omega) (by omega)
      have e : (2 ^ n - 1) * (x / 2 ^ n + 1) = 2 ^ n * (x / 2 ^ n) - x / 2 ^ n + (2 ^ n - 1) := by rw [Int.mul_add, Int.sub_mul, Int.one_mul, Int.mul_one]
      omega
    · rw [h6] at h2 ⊢
      omega

section
variable {P : Program} {X : Cx} {tm : Tm} {ob : List Ob} {dst : Option Nat} {ty : TypeId} {pos : String} {after : Array Edge} {gd : Option (Nat × Bool)}

theorem vr_b {w : World} {ok : Nat → Prop} {G : Gh} {x : Bool} {v : Value} (h : VR w ok G (.c .b x) v) : v = .bool x := by simpa only [VR, RS] using h
theorem vr_i {w : World} {ok : Nat → Prop} {G : Gh} {k : IntKind} {x : Int} {v : Value} (h : VR w ok G (.c (.i k) x) v) : v = .int k x ∧ k.wrap x = x := by simpa only [VR, RS] using h
theorem vr_s {w : World} {ok : Nat → Prop} {G : Gh} {x : List UInt8} {v : Value} (h : VR w ok G (.c .s x) v) : v = str x ∧ x.length ≤ 9223372036854775807 := by simpa only [VR, RS] using h

theorem vri {w : World} {ok : Nat → Prop} {G : Gh} {k : IntKind} {x : Int} (h : k.wrap x = x) : VR w ok G (.c (.i k) x) (.int k x) := ⟨rfl, h⟩
theorem vrb {w : World} {ok : Nat → Prop} {G : Gh} {x : Bool} : VR w ok G (.c .b x) (.bool x) := rfl
theorem vrs {w : World} {ok : Nat → Prop} {G : Gh} {x : List UInt8} (h : x.length ≤ 9223372036854775807) : VR w ok G (.c .s x) (str x) := ⟨rfl, h⟩

theorem mv {x : Operand} {av : AV} (hx : rd tm x = some av) : Val P X tm ob ⟨dst, .move x, ty, pos, after, gd⟩ av :=
  fun a w G hG hv => ⟨_, fun _ _ => rfl, hv x av hx⟩
theorem asn {x : Operand} {av : AV} (hx : rd tm x = some av) : Val P X tm ob ⟨dst, .assign x, ty, pos, after, gd⟩ av :=
  fun a w G hG hv => ⟨_, fun _ _ => rfl, hv x av hx⟩
theorem pickT {c x y : Operand} {av : AV} (hc : rd tm c = some (.c .b true)) (hx : rd tm x = some av) : Val P X tm ob ⟨dst, .pick c x y, ty, pos, after, gd⟩ av :=
  fun a w G hG hv => ⟨_, fun _ _ => by simp [execOp, vr_b (hv c _ hc), asBool], hv x av hx⟩
theorem pickF {c x y : Operand} {av : AV} (hc : rd tm c = some (.c .b false)) (hx : rd tm y = some av) : Val P X tm ob ⟨dst, .pick c x y, ty, pos, after, gd⟩ av :=
  fun a w G hG hv => ⟨_, fun _ _ => by simp [execOp, vr_b (hv c _ hc), asBool], hv y av hx⟩

theorem run_bin {a : Act} {w : World} {op : BinOp} {xt yt : TypeId} {x y : Operand} {u v r : Value} (h1 : a.eval x = u) (h2 : a.eval y = v) (hg : eqGuard op xt x y u v = pure ()) (hb : (binOp op xt u v).run P w = .ok r w) :
    (execOp a.eval ⟨dst, .binOp op xt x y yt, ty, pos, after, gd⟩).run P w = .ok (.value r) w := by
  simp only [execOp, h1, h2, hg, Sem.run_bind, Sem.run_pure, Result.andThen_ok, hb]
theorem guard_int {op : BinOp} {xt : TypeId} {x y : Operand} {k k' : IntKind} {m n : Int} : eqGuard op xt x y (.int k m) (.int k' n) = pure () := by cases op <;> rfl
theorem guard_str {op : BinOp} {xt : TypeId} {x y : Operand} {m n : ByteArray} : eqGuard op xt x y (.string m) (.string n) = pure () := by cases op <;> rfl
theorem guard_bool {op : BinOp} {xt : TypeId} {x y : Operand} {m n : Bool} : eqGuard op xt x y (.bool m) (.bool n) = pure () := by cases op <;> rfl
theorem guard_sl {op : BinOp} {xt : TypeId} {x y : Operand} {A A' : Option Addr} {n c n' c' : Nat} : eqGuard op xt x y (.slice A n c) (.slice A' n' c') = pure () := by cases op <;> rfl
theorem guard_ptr {op : BinOp} {xt : TypeId} {x y : Operand} {A A' : Option Addr} : eqGuard op xt x y (.pointer A) (.pointer A') = pure () := by cases op <;> rfl

/-- What an operation on two whole numbers makes. -/
def ib (op : BinOp) (k : IntKind) (x y : Int) : Option AV :=
  match op with
  | .add => some (.c (.i k) (k.wrap (x + y)))
  | .sub => some (.c (.i k) (k.wrap (x - y)))
  | .mul => some (.c (.i k) (k.wrap (x * y)))
  | .and => some (.c (.i k) (k.wrap (BitVec.ofInt k.bits x &&& BitVec.ofInt k.bits y).toNat))
  | .or => some (.c (.i k) (k.wrap (BitVec.ofInt k.bits x ||| BitVec.ofInt k.bits y).toNat))
  | .xor => some (.c (.i k) (k.wrap (BitVec.ofInt k.bits x ^^^ BitVec.ofInt k.bits y).toNat))
  | .andNot => some (.c (.i k) (k.wrap (BitVec.ofInt k.bits x &&& ~~~(BitVec.ofInt k.bits y)).toNat))
  | .eql => some (.c .b (x == y))
  | .neq => some (.c .b (x != y))
  | .lss => some (.c .b (decide (x < y)))
  | .leq => some (.c .b (decide (x ≤ y)))
  | .gtr => some (.c .b (decide (x > y)))
  | .geq => some (.c .b (decide (x ≥ y)))
  | _ => none
theorem ib_run {w : World} {ok : Nat → Prop} {G : Gh} {op : BinOp} {xt : TypeId} {k : IntKind} {m n : Int} {av : AV} (h : ib op k m n = some av) : ∃ r, (∀ w' : World, (binOp op xt (.int k m) (.int k n)).run P w' = .ok r w') ∧ VR w ok G av r := by
  cases op <;> simp only [ib, Option.some.injEq, reduceCtorEq] at h <;> subst h
  case add => exact ⟨.int k (k.wrap (m + n)), fun _ => by simp [binOp, Op.intArith], vri (wrap_wrap _ _)⟩
  case sub => exact ⟨.int k (k.wrap (m - n)), fun _ => by simp [binOp, Op.intArith], vri (wrap_wrap _ _)⟩
  case mul => exact ⟨.int k (k.wrap (m * n)), fun _ => by simp [binOp, Op.intArith], vri (wrap_wrap _ _)⟩
  case and => exact ⟨.int k (k.wrap (BitVec.ofInt k.bits m &&& BitVec.ofInt k.bits n).toNat), fun _ => by simp only [binOp, ne_eq, not_true, if_false, Op.intBits, Sem.run_pure], vri (wrap_wrap _ _)⟩
  case or => exact ⟨.int k (k.wrap (BitVec.ofInt k.bits m ||| BitVec.ofInt k.bits n).toNat), fun _ => by simp only [binOp, ne_eq, not_true, if_false, Op.intBits, Sem.run_pure], vri (wrap_wrap _ _)⟩
  case xor => exact ⟨.int k (k.wrap (BitVec.ofInt k.bits m ^^^ BitVec.ofInt k.bits n).toNat), fun _ => by simp only [binOp, ne_eq, not_true, if_false, Op.intBits, Sem.run_pure], vri (wrap_wrap _ _)⟩
  case andNot => exact ⟨.int k (k.wrap (BitVec.ofInt k.bits m &&& ~~~(BitVec.ofInt k.bits n)).toNat), fun _ => by simp only [binOp, ne_eq, not_true, if_false, Op.intBits, Sem.run_pure], vri (wrap_wrap _ _)⟩
  case eql => exact ⟨.bool (m == n), fun _ => by simp only [binOp, ne_eq, not_true, if_false, Op.intCmp, Sem.run_pure], vrb⟩
  case neq => exact ⟨.bool (m != n), fun _ => by simp only [binOp, ne_eq, not_true, if_false, Op.intCmp, Sem.run_pure], vrb⟩
  case lss => exact ⟨.bool (decide (m < n)), fun _ => by simp only [binOp, ne_eq, not_true, if_false, Op.intCmp, Sem.run_pure], vrb⟩
  case leq => exact ⟨.bool (decide (m ≤ n)), fun _ => by simp only [binOp, ne_eq, not_true, if_false, Op.intCmp, Sem.run_pure], vrb⟩
  case gtr => exact ⟨.bool (decide (m > n)), fun _ => by simp only [binOp, ne_eq, not_true, if_false, Op.intCmp, Sem.run_pure], vrb⟩
  case geq => exact ⟨.bool (decide (m ≥ n)), fun _ => by simp only [binOp, ne_eq, not_true, if_false, Op.intCmp, Sem.run_pure], vrb⟩
theorem ibin {op : BinOp} {x y : Operand} {xt yt : TypeId} {k : IntKind} {m n : Int} {av : AV} (hx : rd tm x = some (.c (.i k) m)) (hy : rd tm y = some (.c (.i k) n)) (h : ib op k m n = some av) :
    Val P X tm ob ⟨dst, .binOp op xt x y yt, ty, pos, after, gd⟩ av := fun a w G hG hv => by
  obtain ⟨r, h1, h2⟩ := ib_run (P := P) (w := w) (ok := okG X.Z G) (G := G) (xt := xt) h
  exact ⟨r, fun w' _ => run_bin (vr_i (hv x _ hx)).1 (vr_i (hv y _ hy)).1 guard_int (h1 w'), h2⟩
theorem iquo {x y : Operand} {xt yt : TypeId} {k : IntKind} {m n : Int} (hx : rd tm x = some (.c (.i k) m)) (hy : rd tm y = some (.c (.i k) n)) (h : n ≠ 0) :
    Val P X tm ob ⟨dst, .binOp .quo xt x y yt, ty, pos, after, gd⟩ (.c (.i k) (k.wrap (m.tdiv n))) := fun a w G hG hv =>
  ⟨.int k (k.wrap (m.tdiv n)), fun w' _ => run_bin (vr_i (hv x _ hx)).1 (vr_i (hv y _ hy)).1 guard_int (by simp [binOp, Op.intDiv, h]), vri (wrap_wrap _ _)⟩
theorem irem {x y : Operand} {xt yt : TypeId} {k : IntKind} {m n : Int} (hx : rd tm x = some (.c (.i k) m)) (hy : rd tm y = some (.c (.i k) n)) (h : n ≠ 0) :
    Val P X tm ob ⟨dst, .binOp .rem xt x y yt, ty, pos, after, gd⟩ (.c (.i k) (m.tmod n)) := fun a w G hG hv =>
  ⟨.int k (m.tmod n), fun w' _ => run_bin (vr_i (hv x _ hx)).1 (vr_i (hv y _ hy)).1 guard_int (by simp [binOp, Op.intDiv, h]), vri (wrap_mid (vr_i (hv x _ hx)).2 (tmod_mid m n h))⟩
theorem ishl {x y : Operand} {xt yt : TypeId} {k k' : IntKind} {m n : Int} (hx : rd tm x = some (.c (.i k) m)) (hy : rd tm y = some (.c (.i k') n)) (h : 0 ≤ n) :
    Val P X tm ob ⟨dst, .binOp .shl xt x y yt, ty, pos, after, gd⟩ (.c (.i k) (k.wrap (m * 2 ^ min n.toNat k.bits))) := fun a w G hG hv =>
  ⟨.int k (k.wrap (m * 2 ^ min n.toNat k.bits)), fun w' _ => run_bin (vr_i (hv x _ hx)).1 (vr_i (hv y _ hy)).1 guard_int (by simp [binOp, Op.shift, Int.not_lt.2 h]), vri (wrap_wrap _ _)⟩
theorem ishr {x y : Operand} {xt yt : TypeId} {k k' : IntKind} {m n : Int} (hx : rd tm x = some (.c (.i k) m)) (hy : rd tm y = some (.c (.i k') n)) (h : 0 ≤ n) :
    Val P X tm ob ⟨dst, .binOp .shr xt x y yt, ty, pos, after, gd⟩ (.c (.i k) (m.fdiv (2 ^ min n.toNat k.bits))) := fun a w G hG hv =>
  ⟨.int k (m.fdiv (2 ^ min n.toNat k.bits)), fun w' _ => run_bin (vr_i (hv x _ hx)).1 (vr_i (hv y _ hy)).1 guard_int (by simp [binOp, Op.shift, Int.not_lt.2 h]), vri (wrap_mid (vr_i (hv x _ hx)).2 (fdiv_mid _ _))⟩

theorem str_append (x y : List UInt8) : (⟨⟨x⟩⟩ : ByteArray) ++ ⟨⟨y⟩⟩ = ⟨⟨x ++ y⟩⟩ := by
  apply ByteArray.ext; simp
/-- What an operation on two texts makes. -/
def sb (op : BinOp) (x y : List UInt8) : Option AV :=
  match op with
  | .eql => some (.c .b (x == y))
  | .neq => some (.c .b (!(x == y)))
  | .lss => some (.c .b (Op.bytesLess x y))
  | .leq => some (.c .b (Op.bytesLess x y || x == y))
  | .gtr => some (.c .b (!(Op.bytesLess x y || x == y)))
  | .geq => some (.c .b (!(Op.bytesLess x y)))
  | _ => none
theorem toList_str (x : List UInt8) : (⟨⟨x⟩⟩ : ByteArray).toList = x := ByteArray.toList_mk x
theorem sb_run {w : World} {ok : Nat → Prop} {G : Gh} {op : BinOp} {xt : TypeId} {m n : List UInt8} {av : AV} (h : sb op m n = some av) : ∃ r, (∀ w' : World, (binOp op xt (str m) (str n)).run P w' = .ok r w') ∧ VR w ok G av r := by
  cases op <;> simp only [sb, Option.some.injEq, reduceCtorEq] at h <;> subst h <;>
    exact ⟨.bool _, fun _ => by simp only [str, binOp, Op.stringOp, toList_str, Sem.run_pure], vrb⟩
theorem sbin {op : BinOp} {x y : Operand} {xt yt : TypeId} {m n : List UInt8} {av : AV} (hx : rd tm x = some (.c .s m)) (hy : rd tm y = some (.c .s n)) (h : sb op m n = some av) :
    Val P X tm ob ⟨dst, .binOp op xt x y yt, ty, pos, after, gd⟩ av := fun a w G hG hv => by
  obtain ⟨r, h1, h2⟩ := sb_run (P := P) (w := w) (ok := okG X.Z G) (G := G) (xt := xt) h
  exact ⟨r, fun w' _ => run_bin (vr_s (hv x _ hx)).1 (vr_s (hv y _ hy)).1 guard_str (h1 w'), h2⟩
theorem sadd {x y : Operand} {xt yt : TypeId} {m n : List UInt8} (hx : rd tm x = some (.c .s m)) (hy : rd tm y = some (.c .s n)) (h : m.length + n.length ≤ 9223372036854775807) :
    Val P X tm ob ⟨dst, .binOp .add xt x y yt, ty, pos, after, gd⟩ (.c .s (m ++ n)) := fun a w G hG hv => by
  refine ⟨str (m ++ n), fun w' _ => run_bin (vr_s (hv x _ hx)).1 (vr_s (hv y _ hy)).1 guard_str ?_, vrs (by simpa using h)⟩
  have hs : ∀ l : List UInt8, (⟨⟨l⟩⟩ : ByteArray).size = l.length := fun l => by simp [ByteArray.size]
  have hm : ¬ (((m.length + n.length : Nat) : Int) > IntKind.i64.max) := by simp only [IntKind.max, IntKind.bits, IntKind.signed]; simp; omega
  simp only [str, binOp, Op.stringOp, hs, if_neg hm, str_append, Sem.run_pure]
/-- Two truth values. -/
theorem eq_bool {w : World} {t : TypeId} {m n : Bool} (ht : P.underlying t = some .bool) : (Op.equal t (.bool m) (.bool n)).run P w = .ok (m == n) w := by
  show (Op.equalIn (9999 + 1) t (.bool m) (.bool n)).run P w = _
  unfold Op.equalIn
  simp only [Sem.run_bind, run_underlying ht, Result.andThen_ok, Sem.run_pure]
theorem beql {x y : Operand} {xt yt : TypeId} {m n : Bool} (hx : rd tm x = some (.c .b m)) (hy : rd tm y = some (.c .b n)) (ht : P.underlying xt = some .bool) :
    Val P X tm ob ⟨dst, .binOp .eql xt x y yt, ty, pos, after, gd⟩ (.c .b (m == n)) := fun a w G hG hv =>
  ⟨.bool (m == n), fun w' _ => run_bin (vr_b (hv x _ hx)) (vr_b (hv y _ hy)) guard_bool (by simp only [binOp, Sem.run_bind, eq_bool ht, Result.andThen_ok, Sem.run_pure]), vrb⟩
theorem bneq {x y : Operand} {xt yt : TypeId} {m n : Bool} (hx : rd tm x = some (.c .b m)) (hy : rd tm y = some (.c .b n)) (ht : P.underlying xt = some .bool) :
    Val P X tm ob ⟨dst, .binOp .neq xt x y yt, ty, pos, after, gd⟩ (.c .b (!(m == n))) := fun a w G hG hv =>
  ⟨.bool (!(m == n)), fun w' _ => run_bin (vr_b (hv x _ hx)) (vr_b (hv y _ hy)) guard_bool (by simp only [binOp, Sem.run_bind, eq_bool ht, Result.andThen_ok, Sem.run_pure]), vrb⟩
theorem unot {x : Operand} {xt : TypeId} {m : Bool} (hx : rd tm x = some (.c .b m)) : Val P X tm ob ⟨dst, .unOp .not xt x, ty, pos, after, gd⟩ (.c .b (!m)) := fun a w G hG hv =>
  ⟨.bool (!m), fun w' _ => by simp only [execOp, vr_b (hv x _ hx), Op.unary, Sem.run_bind, Sem.run_pure, Result.andThen_ok], vrb⟩
theorem uneg {x : Operand} {xt : TypeId} {k : IntKind} {m : Int} (hx : rd tm x = some (.c (.i k) m)) : Val P X tm ob ⟨dst, .unOp .neg xt x, ty, pos, after, gd⟩ (.c (.i k) (k.wrap (0 - m))) := fun a w G hG hv =>
  ⟨.int k (k.wrap (0 - m)), fun w' _ => by simp only [execOp, (vr_i (hv x _ hx)).1, Op.unary, Op.intArith, Sem.run_bind, Sem.run_pure, Result.andThen_ok], vri (wrap_wrap _ _)⟩
theorem cvi {src dt : TypeId} {sd : TypeDesc} {x : Operand} {k k' : IntKind} {m : Int} (hx : rd tm x = some (.c (.i k) m)) (hs : P.underlying src = some sd) (ht : P.underlying dt = some (.int k')) :
    Val P X tm ob ⟨dst, .convert src dt x, ty, pos, after, gd⟩ (.c (.i k') (k'.wrap m)) := fun a w G hG hv =>
  ⟨.int k' (k'.wrap m), fun w' _ => by cases sd <;> simp only [execOp, (vr_i (hv x _ hx)).1, convert, run_underlying hs, run_underlying ht, Conv.intToInt, Sem.run_bind, Sem.run_pure, Result.andThen_ok], vri (wrap_wrap _ _)⟩
end
end Go.Proofs.YtifpekpmnlcmoaaE
