/- The engine, part 2: what is a call's own (deep rows), abstract values, objects, and when a frame and a world stand as an abstract state says. -/
import Derived.Test.YtifpekpmnlcmoaaE1
set_option linter.unusedVariables false
set_option linter.unusedSimpArgs false
namespace Go.Proofs.YtifpekpmnlcmoaaE
open Go

/-- Rows: element j's cells. -/
def chunk (sz j : Nat) (inner : List Value) : List Value := (inner.drop (j * sz)).take sz

mutual
/-- The value v is x, in rows that are one's own: fp their blocks, each row's own. -/
def RD (w : World) : (t : Ty) → t.den → Value → List Nat → Prop
  | .i k, n, v, fp => (v = .int k n ∧ k.wrap n = n) ∧ fp = []
  | .b, x, v, fp => v = .bool x ∧ fp = []
  | .s, x, v, fp => (v = str x ∧ x.length ≤ 9223372036854775807) ∧ fp = []
  | .l ts, xs, v, fp => ∃ (e : TypeId) (inner : List Value) (fps : List (List Nat)), w.ownsRow 0 e ts.sz v xs.length inner ∧ fps.length = xs.length ∧
      (∀ (j : Nat) (x : ts.den) (f : List Nat), xs[j]? = some x → fps[j]? = some f → RDs w ts x (chunk ts.sz j inner) f) ∧ fp = v.ownBlock.toList ++ fps.flatten
  | .v, x, v, fp => (v = x ∧ x.oneCell' = true) ∧ fp = []
def RDs (w : World) : (ts : Tys) → ts.den → List Value → List Nat → Prop
  | .nil, _, cs, fp => cs = [] ∧ fp = []
  | .cons t ts, (x, xs), cs, fp => ∃ v cs' f f', cs = v :: cs' ∧ fp = f ++ f' ∧ RD w t x v f ∧ RDs w ts xs cs' f'
end

mutual
/-- No rows inside. -/
@[reducible] def Ty.flat : Ty → Bool
  | .l _ => false
  | _ => true
@[reducible] def Tys.flat : Tys → Bool
  | .nil => true
  | .cons t ts => t.flat && ts.flat
end
theorem owns_move {w w' : World} {base e sz n : Nat} {v : Value} {xs : List Value} (h : w.ownsRow base e sz v n xs) (hm : ∀ b ∈ v.ownBlock.toList, w'.heap[b]? = w.heap[b]?) : w'.ownsRow base e sz v n xs := by
  obtain ⟨h1, h2⟩ := h
  refine ⟨h1, ?_⟩
  rcases h2 with h2 | ⟨g, cap, cur, rfl, hg, hh, r⟩
  · exact .inl h2
  · exact .inr ⟨g, cap, cur, rfl, hg, (hm g (by simp [Value.ownBlock])).trans hh, r⟩

theorem owns_lt {w : World} {base e sz n : Nat} {v : Value} {xs : List Value} (h : w.ownsRow base e sz v n xs) : ∀ b ∈ v.ownBlock.toList, b < w.heap.size := by
  intro b hb
  exact (h.lt b (by simpa using hb)).2

mutual
theorem RD_move {w w' : World} : ∀ (t : Ty) (x : t.den) (v : Value) (fp : List Nat), (∀ b ∈ fp, w'.heap[b]? = w.heap[b]?) → RD w t x v fp → RD w' t x v fp
  | .i k, n, v, fp, _, h => by simpa only [RD] using h
  | .b, n, v, fp, _, h => by simpa only [RD] using h
  | .s, n, v, fp, _, h => by simpa only [RD] using h
  | .l ts, xs, v, fp, hm, h => by
    simp only [RD] at h ⊢
    obtain ⟨e, inner, fps, ho, hl, hx, rfl⟩ := h
    refine ⟨e, inner, fps, owns_move ho (fun b hb => hm b (List.mem_append_left _ hb)), hl, fun j x f hj hf => ?_, rfl⟩
    exact RDs_move ts x _ f (fun b hb => hm b (List.mem_append_right _ (List.mem_flatten.2 ⟨f, List.mem_of_getElem? hf, hb⟩))) (hx j x f hj hf)
  | .v, x, v, fp, _, h => by simpa only [RD] using h
theorem RDs_move {w w' : World} : ∀ (ts : Tys) (x : ts.den) (cs : List Value) (fp : List Nat), (∀ b ∈ fp, w'.heap[b]? = w.heap[b]?) → RDs w ts x cs fp → RDs w' ts x cs fp
  | .nil, _, cs, fp, _, h => by simpa only [RDs] using h
  | .cons t ts, (x, xs), cs, fp, hm, h => by
    simp only [RDs] at h ⊢
    obtain ⟨v, cs', f, f', hc, rfl, h1, h2⟩ := h
    exact ⟨v, cs', f, f', hc, rfl, RD_move t x v f (fun b hb => hm b (List.mem_append_left _ hb)) h1, RDs_move ts xs cs' f' (fun b hb => hm b (List.mem_append_right _ hb)) h2⟩
end

mutual
theorem RD_lt {w : World} : ∀ (t : Ty) (x : t.den) (v : Value) (fp : List Nat), RD w t x v fp → ∀ b ∈ fp, b < w.heap.size
  | .i k, n, v, fp, h => by simp only [RD] at h; simp [h.2]
  | .b, n, v, fp, h => by simp only [RD] at h; simp [h.2]
  | .s, n, v, fp, h => by simp only [RD] at h; simp [h.2]
  | .l ts, xs, v, fp, h => by
    simp only [RD] at h
    obtain ⟨e, inner, fps, ho, hl, hx, rfl⟩ := h
    intro b hb
    rcases List.mem_append.1 hb with hb | hb
    · exact owns_lt ho b hb
    · obtain ⟨f, hf, hb⟩ := List.mem_flatten.1 hb
      obtain ⟨j, hj⟩ := List.getElem?_of_mem hf
      have hjl : j < xs.length := by rw [← hl]; exact (List.getElem?_eq_some_iff.1 hj).1
      exact RDs_lt ts _ _ f (hx j xs[j] f (List.getElem?_eq_getElem hjl) hj) b hb
  | .v, x, v, fp, h => by simp only [RD] at h; simp [h.2]
theorem RDs_lt {w : World} : ∀ (ts : Tys) (x : ts.den) (cs : List Value) (fp : List Nat), RDs w ts x cs fp → ∀ b ∈ fp, b < w.heap.size
  | .nil, _, cs, fp, h => by simp only [RDs] at h; simp [h.2]
  | .cons t ts, (x, xs), cs, fp, h => by
    simp only [RDs] at h
    obtain ⟨v, cs', f, f', hc, rfl, h1, h2⟩ := h
    intro b hb
    rcases List.mem_append.1 hb with hb | hb
    · exact RD_lt t x v f h1 b hb
    · exact RDs_lt ts xs cs' f' h2 b hb
end

theorem chunk_get {sz j i : Nat} {inner : List Value} (h : i < sz) : (chunk sz j inner)[i]? = inner[j * sz + i]? := by
  unfold chunk
  rw [List.getElem?_take_of_lt h, List.getElem?_drop]

theorem at_of_owns {w : World} {base e sz n g : Nat} {cap : Nat} {xs : List Value} (h : w.ownsRow base e sz (.slice (some ⟨g, 0, none⟩) n cap) n xs) (j : Nat) : At w g (0 + j * sz) (chunk sz j xs) := by
  intro i u hu
  have hi : i < sz := by
    have := (List.getElem?_eq_some_iff.1 hu).1
    unfold chunk at this
    rw [List.length_take] at this
    omega
  rw [chunk_get hi] at hu
  have := h.cells (g := g) rfl (j * sz + i) u hu
  have hadd : (⟨g, 0, none⟩ : Addr).add (j * sz + i) = ⟨g, 0 + j * sz + i, none⟩ := by unfold Addr.add; split <;> simp_all
  rwa [hadd] at this

mutual
theorem RS_of_RD {w : World} {ok : Nat → Prop} : ∀ (t : Ty) (x : t.den) (v : Value) (fp : List Nat), (∀ b ∈ fp, ok b) → RD w t x v fp → RS w ok t x v
  | .i k, n, v, fp, _, h => by simp only [RD] at h; simpa only [RS] using h.1
  | .b, n, v, fp, _, h => by simp only [RD] at h; simpa only [RS] using h.1
  | .s, n, v, fp, _, h => by simp only [RD] at h; simpa only [RS] using h.1
  | .l ts, xs, v, fp, hok, h => by
    simp only [RD] at h
    obtain ⟨e, inner, fps, ho, hl, hx, rfl⟩ := h
    simp only [RS]
    have ho' := ho
    rcases ho.2 with ⟨rfl, h0⟩ | ⟨g, cap, cur, rfl, hb, hg, hn, hm, hs, ht⟩
    · have hxs : xs = [] := List.eq_nil_of_length_eq_zero h0
      subst hxs
      exact ⟨none, 0, rfl, Nat.le_refl _, by omega, fun h => absurd rfl h⟩
    · refine ⟨_, cap, rfl, hn, by simpa only [maxLen] using hm, fun hne => ⟨g, 0, rfl, hok g (by simp [Value.ownBlock]), (Array.getElem?_eq_some_iff.1 hg).1, fun j x hj => ?_⟩⟩
      have hjl := (List.getElem?_eq_some_iff.1 hj).1
      have hf : fps[j]? = some fps[j] := List.getElem?_eq_getElem (by omega)
      refine ⟨chunk ts.sz j inner, RSs_of_RDs ts x _ fps[j] (fun b hb => hok b (List.mem_append_right _ (List.mem_flatten.2 ⟨_, List.mem_of_getElem? hf, hb⟩))) (hx j x _ hj hf), at_of_owns ho' j⟩
  | .v, x, v, fp, _, h => by simp only [RD] at h; simpa only [RS] using h.1
theorem RSs_of_RDs {w : World} {ok : Nat → Prop} : ∀ (ts : Tys) (x : ts.den) (cs : List Value) (fp : List Nat), (∀ b ∈ fp, ok b) → RDs w ts x cs fp → RSs w ok ts x cs
  | .nil, _, cs, fp, _, h => by simp only [RDs] at h; simpa only [RSs] using h.1
  | .cons t ts, (x, xs), cs, fp, hok, h => by
    simp only [RDs] at h
    simp only [RSs]
    obtain ⟨v, cs', f, f', hc, rfl, h1, h2⟩ := h
    exact ⟨v, cs', hc, RS_of_RD t x v f (fun b hb => hok b (List.mem_append_left _ hb)) h1, RSs_of_RDs ts xs cs' f' (fun b hb => hok b (List.mem_append_right _ hb)) h2⟩
end

mutual
/-- Zero. -/
@[reducible] def Ty.z : (t : Ty) → t.den
  | .i _ => (0 : Int)
  | .b => false
  | .s => ([] : List UInt8)
  | .l ts => ([] : List ts.den)
  | .v => Value.slice none 0 0
@[reducible] def Tys.z : (ts : Tys) → ts.den
  | .nil => ()
  | .cons t ts => (t.z, ts.z)
end
/-- Element i. -/
def ix {α : Type} (z : α) (xs : List α) (i : Int) : α := xs.getD i.toNat z
@[reducible] def Tys.drop : Nat → Tys → Tys
  | 0, ts => ts
  | _ + 1, .nil => .nil
  | n + 1, .cons _ ts => Tys.drop n ts
@[reducible] def Tys.dropd : (n : Nat) → (ts : Tys) → ts.den → (Tys.drop n ts).den
  | 0, _, x => x
  | _ + 1, .nil, x => x
  | n + 1, .cons _ ts, x => Tys.dropd n ts x.2

/-- Abstract values. -/
inductive AV
  | z
  | nl
  | np
  | c (t : Ty) (x : t.den)
  | own (k : Nat)
  | agg (xs : List AV)
  | rp (ts : Tys) (x : ts.den)
  | bp (k off : Nat)
  | ep (k i sz off : Nat)
  | sub (k lo n sz : Nat)
  | bs (k n : Nat)
  | fn (g : Nat) (caps : List AV)
  | tup (xs : List AV)

/-- A row of one's own, by its value. -/
structure Pe where
  ts : Tys
  xs : List ts.den
  v : Value
/-- What the call has made: an array, a variable in memory, a heap of rows. -/
inductive Ob
  | dead
  | box (ty : TypeId) (cells : List AV)
  | arr (deep : Bool) (e : TypeId) (ts : Tys) (xs : List ts.den)
  | bld (T e : TypeId) (bs : List UInt8)
  | pile (ps : List Pe)
  | prt (e : TypeId) (ts : Tys) (xs : List (Option ts.den)) (c : Nat)
  | hed
/-- What is left of an object whose blocks are not looked at. -/
@[reducible] def Ob.hd : Ob → Ob
  | .arr .. => .hed
  | .box .. => .hed
  | .bld .. => .hed
  | .prt .. => .hed
  | .hed => .hed
  | _ => .dead

/-- Bytes as cells. -/
def bcell (b : UInt8) : Value := .int .u8 (b.toNat : Int)
abbrev Gh := List (Value × List Nat)

mutual
def VR (w : World) (ok : Nat → Prop) (G : Gh) : AV → Value → Prop
  | .z, _ => True
  | .nl, v => v = .slice none 0 0
  | .np, v => v = .pointer none
  | .c t x, v => RS w ok t x v
  | .own k, v => ∃ g, G[k]? = some g ∧ v = g.1
  | .agg xs, v => ∃ vs, v = .agg ⟨vs⟩ ∧ VRs w ok G xs vs
  | .rp ts x, v => ∃ b p cs, v = .pointer (some ⟨b, p, none⟩) ∧ ok b ∧ b < w.heap.size ∧ RSs w ok ts x cs ∧ At w b p cs
  | .bp k off, v => ∃ b f, G[k]? = some (.pointer (some ⟨b, 0, none⟩), f) ∧ v = .pointer (some ⟨b, off, none⟩)
  | .sub k lo m sz, v => (m = 0 ∧ 0 < lo ∧ ∃ A c, v = .slice A 0 c) ∨ (∃ b n c f, G[k]? = some (.slice (some ⟨b, 0, none⟩) n c, f) ∧ v = .slice (some ⟨b, lo * sz, none⟩) m (c - lo))
  | .ep k i sz off, v => ∃ b n c f, G[k]? = some (.slice (some ⟨b, 0, none⟩) n c, f) ∧ v = .pointer (some ⟨b, i * sz + off, none⟩)
  | .bs k n, v => ∃ b f, G[k]? = some (.pointer (some ⟨b, 0, none⟩), f) ∧ v = .slice (some ⟨b, 0, none⟩) n n
  | .fn g caps, v => ∃ vs, v = .func (.func g) #[] ⟨vs⟩ ∧ VRs w ok G caps vs
  | .tup xs, v => ∃ vs, v = .tuple ⟨vs⟩ ∧ VRs w ok G xs vs
def VRs (w : World) (ok : Nat → Prop) (G : Gh) : List AV → List Value → Prop
  | [], vs => vs = []
  | a :: as, vs => ∃ v vs', vs = v :: vs' ∧ VR w ok G a v ∧ VRs w ok G as vs'
end

end Go.Proofs.YtifpekpmnlcmoaaE
