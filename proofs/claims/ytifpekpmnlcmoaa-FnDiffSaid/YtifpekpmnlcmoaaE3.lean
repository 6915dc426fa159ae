/- The engine, part 3: when a frame and a world stand as an abstract state says; rules for code. -/
import Derived.Test.YtifpekpmnlcmoaaE2
set_option linter.unusedVariables false
set_option linter.unusedSimpArgs false
namespace Go.Proofs.YtifpekpmnlcmoaaE
open Go Go.RowKit

/-- What was there stays, but for the blocks S. -/
structure Kp (S : List Nat) (w w' : World) : Prop where
  os : w'.os = w.os
  tape : w'.tape = w.tape
  output : w'.output = w.output
  size : w.heap.size ≤ w'.heap.size
  block : ∀ k, k < w.heap.size → k ∉ S → w'.heap[k]? = w.heap[k]?
theorem Kp.refl (S : List Nat) (w : World) : Kp S w w := ⟨rfl, rfl, rfl, Nat.le_refl _, fun _ _ _ => rfl⟩
theorem Kp.trans {S : List Nat} {a b c : World} (h : Kp S a b) (k : Kp S b c) : Kp S a c :=
  ⟨k.os.trans h.os, k.tape.trans h.tape, k.output.trans h.output, Nat.le_trans h.size k.size, fun i hi hn => (k.block i (Nat.lt_of_lt_of_le hi h.size) hn).trans (h.block i hi hn)⟩
theorem Kp.mono {S S' : List Nat} {w w' : World} (h : Kp S w w') (hs : ∀ b ∈ S, b < w.heap.size → b ∈ S') : Kp S' w w' :=
  ⟨h.os, h.tape, h.output, h.size, fun k hk hn => h.block k hk (fun hm => hn (hs k hm hk))⟩
theorem Kp.drew {S : List Nat} {a w : World} (h : Kp S a w) : Kp S a w.drew := ⟨h.os, h.tape, h.output, h.size, h.block⟩
theorem Kp.below {w w' : World} (h : Kp [] w w') : Below w.heap.size w w' := ⟨h.os, h.tape, h.output, h.size, fun k hk => h.block k hk (by simp)⟩
theorem Kp.of_below {w w' : World} (h : Below w.heap.size w w') : Kp [] w w' := ⟨h.os, h.tape, h.output, h.size, fun k hk _ => h.block k hk⟩
theorem Kp.alloc (S : List Nat) (w : World) (o : Obj) : Kp S w (w.alloc o) := ⟨rfl, rfl, rfl, by simp, fun k hk _ => Below.heap_alloc w o k hk⟩
theorem Kp.of_grown {w w' : World} {row : Option Nat} (h : w.grownBy w' row) : Kp row.toList w w' :=
  ⟨h.os, h.tape, h.output, h.size, fun k hk hn => h.block k hk (fun e => hn (by simp [← e]))⟩

def fps (G : Gh) : List Nat := G.flatMap (·.2)
def okG (Z : List Nat) (G : Gh) (b : Nat) : Prop := b ∉ fps G ∧ b ∉ Z

/-- Element j's cells, data known, read or made. -/
def OR (w : World) (ok : Nat → Prop) (G : Gh) : Ob → Value × List Nat → Prop
  | .dead, g => g.2 = []
  | .hed, g => g.2 = [] ∧ g.1.oneCell' = true ∧ g.1.cells = #[g.1]
  | .box ty cells, g => ∃ b vs, g = (.pointer (some ⟨b, 0, none⟩), [b]) ∧ w.heap[b]? = some (.cells ⟨vs⟩ ty (0, 0)) ∧ VRs w ok G cells vs ∧ ∀ u ∈ vs, u.oneCell' = true
  | .arr false e ts xs, g => ∃ inner, w.ownsRow 0 e ts.sz g.1 xs.length inner ∧ (∀ (j : Nat) (x : ts.den), xs[j]? = some x → RSs w ok ts x (chunk ts.sz j inner)) ∧ g.2 = g.1.ownBlock.toList
  | .arr true e ts xs, g => ∃ (inner : List Value) (fs : List (List Nat)), w.ownsRow 0 e ts.sz g.1 xs.length inner ∧ fs.length = xs.length ∧
      (∀ (j : Nat) (x : ts.den) (f : List Nat), xs[j]? = some x → fs[j]? = some f → RDs w ts x (chunk ts.sz j inner) f) ∧ g.2 = g.1.ownBlock.toList ++ fs.flatten
  | .bld T e bs, g => ∃ b p v, g = (.pointer (some ⟨b, 0, none⟩), b :: v.ownBlock.toList) ∧ w.heap[b]? = some (.cells ⟨[p, v]⟩ T (0, 0)) ∧ (p = .pointer none ∨ p = .pointer (some ⟨b, 0, none⟩)) ∧ w.ownsRow 0 e 1 v bs.length (bs.map bcell)
  | .pile ps, g => ∃ fs : List (List Nat), fs.length = ps.length ∧ (∀ (j : Nat) (p : Pe) (f : List Nat), ps[j]? = some p → fs[j]? = some f → RD w (.l p.ts) p.xs p.v f) ∧ fs.flatten.Nodup ∧ ∀ b ∈ fs.flatten, b ∈ g.2
  | .prt e ts xs c, g => ∃ b inner, g = (.slice (some ⟨b, 0, none⟩) xs.length c, [b]) ∧ w.ownsRow 0 e ts.sz (.slice (some ⟨b, 0, none⟩) xs.length c) xs.length inner ∧ ∀ (j : Nat) (x : ts.den), xs[j]? = some (some x) → RSs w ok ts x (chunk ts.sz j inner)

/-- The call's beginning: its world, the blocks and heads of what was handed over, the frame's size. -/
structure Cx where
  w0 : World
  S0 : List Nat
  H : List Value
  N : Nat
  Z : List Nat
structure GOK (X : Cx) (ob : List Ob) (G : Gh) (w : World) : Prop where
  len : G.length = ob.length
  nodup : (fps G).Nodup
  lt : ∀ b ∈ fps G, b < w.heap.size ∧ (b ∈ X.S0 ∨ X.w0.heap.size ≤ b)
  z : ∀ b ∈ fps G, b ∉ X.Z
  zl : ∀ b ∈ X.Z, b < X.w0.heap.size
  hd : ∀ (k : Nat) (v : Value), X.H[k]? = some v → ∃ g, G[k]? = some (v, g)
  ob : ∀ (k : Nat) (o : Ob) (g : Value × List Nat), ob[k]? = some o → G[k]? = some g → OR w (okG X.Z G) G o g

abbrev Tm := List (Nat × AV)
def get (tm : Tm) (t : Nat) : Option AV :=
  match tm with
  | [] => none
  | (k, av) :: r => if k = t then some av else get r t

structure Sim (X : Cx) (tm : Tm) (ob : List Ob) (a : Act) (w : World) : Prop where
  n : a.tmps.size = X.N
  d : a.defers = []
  kp : Kp X.S0 X.w0 w
  ex : ∃ G : Gh, GOK X ob G w ∧ ∀ t av, get tm t = some av → t < X.N ∧ VR w (okG X.Z G) G av (a.tmps.getD t undef)

/-- Code from an abstract state on. -/
def CV (P : Program) (X : Cx) (c : Code) (Q : Exit → Act → World → Prop) (tm : Tm) (ob : List Ob) : Prop :=
  ∀ a w, Sim X tm ob a w → c.wp P Q a w
/-- An exit from an abstract state. -/
def XV (X : Cx) (e : Exit) (Q : Exit → Act → World → Prop) (tm : Tm) (ob : List Ob) : Prop :=
  ∀ a w, Sim X tm ob a w → Q e a w
/-- The rest of a region. -/
def OV (P : Program) (X : Cx) (ops : Array Oper) (Q : Exit → Act → World → Prop) (l : List Oper) (tm : Tm) (ob : List Ob) : Prop :=
  ∀ a w, Sim X tm ob a w → wpList P ops Q l a w
/-- What stands behind the first of two. -/
def Th (P : Program) (y : Code) (Q : Exit → Act → World → Prop) : Exit → Act → World → Prop := Exit.then (y.wp P Q) Q

section
variable {P : Program} {X : Cx} {Q : Exit → Act → World → Prop} {tm : Tm} {ob : List Ob}

theorem cseq {x y : Code} (h : CV P X x (Th P y Q) tm ob) : CV P X (.seq x y) Q tm ob := fun a w hs => wp_seq (h a w hs)
theorem cskip (h : XV X .normal Q tm ob) : CV P X .skip Q tm ob := fun a w hs => wp_skip (h a w hs)
theorem clabel {l : Nat} (h : XV X .normal Q tm ob) : CV P X (.label l) Q tm ob := fun a w hs => wp_label (h a w hs)
theorem cexit {id : Nat} (h : XV X (.exit id) Q tm ob) : CV P X (.exit id) Q tm ob := fun a w hs => wp_exit (h a w hs)
theorem cret (h : XV X .ret Q tm ob) : CV P X .ret Q tm ob := fun a w hs => wp_ret (h a w hs)
theorem cblock {id : Nat} {c : Code} (h : CV P X c (Exit.inBlock id Q) tm ob) : CV P X (.block id c) Q tm ob := fun a w hs => wp_block (h a w hs)
theorem creg {id : Nat} {l : List Oper} (h : OV P X l.toArray Q l tm ob) : CV P X (.region id l.toArray false) Q tm ob := fun a w hs => wp_region_lit (h a w hs)
theorem onil {ops : Array Oper} (h : XV X .normal Q tm ob) : OV P X ops Q [] tm ob := fun a w hs => h a w hs
theorem xthn {y : Code} (h : CV P X y Q tm ob) : XV X .normal (Th P y Q) tm ob := fun a w hs => h a w hs
theorem xth {y : Code} {e : Exit} (he : e ≠ .normal) (h : XV X e Q tm ob) : XV X e (Th P y Q) tm ob := fun a w hs => by
  have := h a w hs
  cases e <;> first | exact absurd rfl he | exact this
theorem xthr {y : Code} (h : XV X .ret Q tm ob) : XV X .ret (Th P y Q) tm ob := xth (by simp) h
theorem xthe {y : Code} {i : Nat} (h : XV X (.exit i) Q tm ob) : XV X (.exit i) (Th P y Q) tm ob := xth (by simp) h
theorem xbn {id : Nat} (h : XV X .normal Q tm ob) : XV X .normal (Exit.inBlock id Q) tm ob := fun a w hs => h a w hs
theorem xbr {id : Nat} (h : XV X .ret Q tm ob) : XV X .ret (Exit.inBlock id Q) tm ob := fun a w hs => h a w hs
theorem xbh {id : Nat} (h : XV X .normal Q tm ob) : XV X (.exit id) (Exit.inBlock id Q) tm ob := fun a w hs => by
  show Exit.inBlock id Q (.exit id) a w
  simp only [Exit.inBlock, if_true]; exact h a w hs
theorem xbe {id i : Nat} (hi : (i == id) = false) (h : XV X (.exit i) Q tm ob) : XV X (.exit i) (Exit.inBlock id Q) tm ob := fun a w hs => by
  show Exit.inBlock id Q (.exit i) a w
  have : ¬ i = id := by simpa using hi
  simp only [Exit.inBlock, if_neg this]; exact h a w hs

theorem eval_tmp {a : Act} {t : Nat} : a.eval (.tmp t) = a.tmps.getD t undef := rfl

/-- A test. -/
theorem ccond {t : Nat} {x : Bool} {y z : Code} (hg : get tm t = some (.c .b x)) (h1 : x = true → CV P X y Q tm ob) (h2 : x = false → CV P X z Q tm ob) : CV P X (.cond (.tmp t) y z) Q tm ob := fun a w hs => by
  obtain ⟨G, hG, hv⟩ := hs.ex
  obtain ⟨_, hr⟩ := hv t _ hg
  simp only [VR, RS] at hr
  exact wp_cond_split (by rw [eval_tmp]; exact hr) (fun h => h1 h a w hs) (fun h => h2 h a w hs)

-- A weaker abstract state: objects kept in this order, the others forgotten.
mutual
def AV.ren (f : Nat → Nat) : AV → AV
  | .own k => .own (f k)
  | .bp k o => .bp (f k) o
  | .ep k i sz o => .ep (f k) i sz o
  | .sub k lo n sz => .sub (f k) lo n sz
  | .bs k n => .bs (f k) n
  | .agg xs => .agg (AV.rens f xs)
  | .fn g cs => .fn g (AV.rens f cs)
  | .tup xs => .tup (AV.rens f xs)
  | .z => .z
  | .nl => .nl
  | .np => .np
  | .c t x => .c t x
  | .rp ts x => .rp ts x
def AV.rens (f : Nat → Nat) : List AV → List AV
  | [] => []
  | a :: as => AV.ren f a :: AV.rens f as
end
def Ob.ren (f : Nat → Nat) : Ob → Ob
  | .dead => .dead
  | .hed => .hed
  | .box ty cells => .box ty (AV.rens f cells)
  | .arr d e ts xs => .arr d e ts xs
  | .bld T e bs => .bld T e bs
  | .pile ps => .pile ps
  | .prt e ts xs c => .prt e ts xs c

/-- What is needed of a world, of what is ok and of the objects' heads. -/
structure Mv (w w' : World) (ok ok' : Nat → Prop) (G G' : Gh) (f : Nat → Nat) : Prop where
  size : w.heap.size ≤ w'.heap.size
  ok : ∀ b, ok b → b < w.heap.size → ok' b ∧ w'.heap[b]? = w.heap[b]?
  G : ∀ (k : Nat) (v : Value) (g : List Nat), G[f k]? = some (v, g) → ∃ g', G'[k]? = some (v, g')

mutual
theorem VR_mv {w w' : World} {ok ok' : Nat → Prop} {G G' : Gh} {f : Nat → Nat} (m : Mv w w' ok ok' G G' f) : ∀ (av : AV) (v : Value), VR w ok G (av.ren f) v → VR w' ok' G' av v
  | .z, v, _ => trivial
  | .nl, v, h => by simpa only [VR, AV.ren] using h
  | .np, v, h => by simpa only [VR, AV.ren] using h
  | .c t x, v, h => by
    simp only [VR, AV.ren] at h ⊢
    exact RS_mono m.size m.ok t x v h
  | .own k, v, h => by
    simp only [VR, AV.ren] at h ⊢
    obtain ⟨⟨u, g⟩, hg, hv⟩ := h
    obtain ⟨g', hg'⟩ := m.G k u g hg
    exact ⟨_, hg', hv⟩
  | .agg xs, v, h => by
    simp only [VR, AV.ren] at h ⊢
    obtain ⟨vs, hv, h⟩ := h
    exact ⟨vs, hv, VRs_mv m xs vs h⟩
  | .rp ts x, v, h => by
    simp only [VR, AV.ren] at h ⊢
    obtain ⟨b, p, cs, hv, hok, hlt, hr, hat⟩ := h
    exact ⟨b, p, cs, hv, (m.ok b hok hlt).1, Nat.lt_of_lt_of_le hlt m.size, RSs_mono m.size m.ok ts x cs hr, At_mono hat (m.ok b hok hlt).2⟩
  | .bp k o, v, h => by
    simp only [VR, AV.ren] at h ⊢
    obtain ⟨b, g, hg, hv⟩ := h
    obtain ⟨g', hg'⟩ := m.G k _ g hg
    exact ⟨b, g', hg', hv⟩
  | .ep k i sz o, v, h => by
    simp only [VR, AV.ren] at h ⊢
    obtain ⟨b, n, c, g, hg, hv⟩ := h
    obtain ⟨g', hg'⟩ := m.G k _ g hg
    exact ⟨b, n, c, g', hg', hv⟩
  | .sub k lo q sz, v, h => by
    simp only [VR, AV.ren] at h ⊢
    rcases h with h | ⟨b, n, c, g, hg, hv⟩
    · exact .inl h
    · obtain ⟨g', hg'⟩ := m.G k _ g hg
      exact .inr ⟨b, n, c, g', hg', hv⟩
  | .bs k n, v, h => by
    simp only [VR, AV.ren] at h ⊢
    obtain ⟨b, g, hg, hv⟩ := h
    obtain ⟨g', hg'⟩ := m.G k _ g hg
    exact ⟨b, g', hg', hv⟩
  | .fn g cs, v, h => by
    simp only [VR, AV.ren] at h ⊢
    obtain ⟨vs, hv, h⟩ := h
    exact ⟨vs, hv, VRs_mv m cs vs h⟩
  | .tup xs, v, h => by
    simp only [VR, AV.ren] at h ⊢
    obtain ⟨vs, hv, h⟩ := h
    exact ⟨vs, hv, VRs_mv m xs vs h⟩
theorem VRs_mv {w w' : World} {ok ok' : Nat → Prop} {G G' : Gh} {f : Nat → Nat} (m : Mv w w' ok ok' G G' f) : ∀ (as : List AV) (vs : List Value), VRs w ok G (AV.rens f as) vs → VRs w' ok' G' as vs
  | [], vs, h => by simpa only [VRs, AV.rens] using h
  | a :: as, vs, h => by
    simp only [VRs, AV.rens] at h ⊢
    obtain ⟨v, vs', hv, h1, h2⟩ := h
    exact ⟨v, vs', hv, VR_mv m a v h1, VRs_mv m as vs' h2⟩
end

mutual
theorem AV.ren_id : ∀ (av : AV), av.ren (fun k => k) = av
  | .z | .nl | .np | .c _ _ | .own _ | .rp _ _ | .bp _ _ | .ep _ _ _ _ | .sub _ _ _ _ | .bs _ _ => rfl
  | .agg xs => by simp only [AV.ren, AV.rens_id xs]
  | .fn g cs => by simp only [AV.ren, AV.rens_id cs]
  | .tup xs => by simp only [AV.ren, AV.rens_id xs]
theorem AV.rens_id : ∀ (as : List AV), AV.rens (fun k => k) as = as
  | [] => rfl
  | a :: as => by simp only [AV.rens, AV.ren_id a, AV.rens_id as]
end
theorem VR_mv' {w w' : World} {ok ok' : Nat → Prop} {G G' : Gh} (m : Mv w w' ok ok' G G' (fun k => k)) {av : AV} {v : Value} (h : VR w ok G av v) : VR w' ok' G' av v :=
  VR_mv m av v (by rw [AV.ren_id]; exact h)
theorem VRs_mv' {w w' : World} {ok ok' : Nat → Prop} {G G' : Gh} (m : Mv w w' ok ok' G G' (fun k => k)) {as : List AV} {vs : List Value} (h : VRs w ok G as vs) : VRs w' ok' G' as vs :=
  VRs_mv m as vs (by rw [AV.rens_id]; exact h)

/-- An object moves on: its own blocks stay as they were. -/
theorem OR_mv {w w' : World} {ok ok' : Nat → Prop} {G G' : Gh} {f : Nat → Nat} (m : Mv w w' ok ok' G G' f) {o : Ob} {g : Value × List Nat} (hb : ∀ b ∈ g.2, w'.heap[b]? = w.heap[b]?) (h : OR w ok G (o.ren f) g) : OR w' ok' G' o g := by
  cases o with
  | dead => exact h
  | hed => exact h
  | box ty cells =>
    simp only [OR, Ob.ren] at h ⊢
    obtain ⟨b, vs, rfl, hh, hv, h1⟩ := h
    exact ⟨b, vs, rfl, (hb b (by simp)).trans hh, VRs_mv m cells vs hv, h1⟩
  | bld T e bs =>
    simp only [OR, Ob.ren] at h ⊢
    obtain ⟨b, p, v, rfl, hh, hp, ho⟩ := h
    exact ⟨b, p, v, rfl, (hb b (by simp)).trans hh, hp, owns_move ho (fun x hx => hb x (List.mem_cons_of_mem _ hx))⟩
  | pile ps =>
    simp only [OR, Ob.ren] at h ⊢
    obtain ⟨fs, hl, hx, hn, he⟩ := h
    exact ⟨fs, hl, fun j p f' hj hf => RD_move (.l p.ts) p.xs p.v f' (fun b hm => hb b (he b (List.mem_flatten.2 ⟨f', List.mem_of_getElem? hf, hm⟩))) (hx j p f' hj hf), hn, he⟩
  | prt e ts xs c =>
    simp only [OR, Ob.ren] at h ⊢
    obtain ⟨b, inner, rfl, ho, hx⟩ := h
    exact ⟨b, inner, rfl, owns_move ho (fun x hm => hb x (by simpa [Value.ownBlock] using hm)), fun j x hj => RSs_mono m.size m.ok ts x _ (hx j x hj)⟩
  | arr d e ts xs =>
    cases d with
    | false =>
      simp only [OR, Ob.ren] at h ⊢
      obtain ⟨inner, ho, hx, he⟩ := h
      exact ⟨inner, owns_move ho (fun b hm => hb b (by rw [he]; exact hm)), fun j x hj => RSs_mono m.size m.ok ts x _ (hx j x hj), he⟩
    | true =>
      simp only [OR, Ob.ren] at h ⊢
      obtain ⟨inner, fs, ho, hl, hx, he⟩ := h
      exact ⟨inner, fs, owns_move ho (fun b hm => hb b (by rw [he]; exact List.mem_append_left _ hm)), hl, fun j x f' hj hf => RDs_move ts x _ f' (fun b hm => hb b (by rw [he]; exact List.mem_append_right _ (List.mem_flatten.2 ⟨f', List.mem_of_getElem? hf, hm⟩))) (hx j x f' hj hf), he⟩
theorem Ob.ren_id (o : Ob) : o.ren (fun k => k) = o := by cases o <;> simp [Ob.ren, AV.rens_id]
theorem OR_mv' {w w' : World} {ok ok' : Nat → Prop} {G G' : Gh} (m : Mv w w' ok ok' G G' (fun k => k)) {o : Ob} {g : Value × List Nat} (hb : ∀ b ∈ g.2, w'.heap[b]? = w.heap[b]?) (h : OR w ok G o g) : OR w' ok' G' o g :=
  OR_mv m hb (by rw [Ob.ren_id]; exact h)
end

end Go.Proofs.YtifpekpmnlcmoaaE
