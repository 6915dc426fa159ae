/- The engine, part 22: regions that draw their order, with operations that change the world. -/
import Derived.Test.YtifpekpmnlcmoaaE21
import Derived.OrdersHeld
set_option linter.unusedVariables false
set_option linter.unusedSimpArgs false
namespace Go.Proofs.YtifpekpmnlcmoaaE
open Go Go.RowKit

/-- A state, its ghosts told. -/
structure Sg (X : Cx) (tm : Tm) (ob : List Ob) (a : Act) (w : World) (G : Gh) : Prop where
  n : a.tmps.size = X.N
  d : a.defers = []
  kp : Kp X.S0 X.w0 w
  gok : GOK X ob G w
  hv : ∀ t av, get tm t = some av → t < X.N ∧ VR w (okG X.Z G) G av (a.tmps.getD t undef)
/-- The objects M are not looked at. -/
@[reducible] def kill (M : List Nat) : Nat → List Ob → List Ob
  | _, [] => []
  | i, o :: r => (bif M.elem i then o.hd else o) :: kill M (i + 1) r
def killG (M : List Nat) : Nat → Gh → Gh
  | _, [] => []
  | i, g :: r => (bif M.elem i then (g.1, []) else g) :: killG M (i + 1) r
theorem kill_get (M : List Nat) : ∀ (ob : List Ob) (n k : Nat), (kill M n ob)[k]? = (ob[k]?).map fun o => bif M.elem (n + k) then o.hd else o
  | [], n, k => by simp [kill]
  | o :: r, n, 0 => by simp [kill]
  | o :: r, n, k + 1 => by simp only [kill, List.getElem?_cons_succ, kill_get M r (n + 1) k]; rw [show n + 1 + k = n + (k + 1) by omega]
theorem killG_get (M : List Nat) : ∀ (G : Gh) (n k : Nat), (killG M n G)[k]? = (G[k]?).map fun g => bif M.elem (n + k) then (g.1, []) else g
  | [], n, k => by simp [killG]
  | o :: r, n, 0 => by simp [killG]
  | o :: r, n, k + 1 => by simp only [killG, List.getElem?_cons_succ, killG_get M r (n + 1) k]; rw [show n + 1 + k = n + (k + 1) by omega]
theorem kill_len (M : List Nat) : ∀ (ob : List Ob) (n : Nat), (kill M n ob).length = ob.length
  | [], n => rfl
  | o :: r, n => by simp only [kill, List.length_cons, kill_len M r (n + 1)]
theorem killG_len (M : List Nat) : ∀ (ob : Gh) (n : Nat), (killG M n ob).length = ob.length
  | [], n => rfl
  | o :: r, n => by simp only [killG, List.length_cons, killG_len M r (n + 1)]

theorem hd_ok {w w' : World} {ok ok' : Nat → Prop} {G G' : Gh} {o : Ob} {g g' : Value × List Nat} (h : OR w ok G o g) (h1 : g'.1 = g.1) (h2 : g'.2 = []) : OR w' ok' G' o.hd g' := by
  cases o with
  | dead => exact h2
  | pile ps => exact h2
  | hed => simp only [OR, Ob.hd] at h ⊢; rw [h1]; exact ⟨h2, h.2⟩
  | box t cs => simp only [OR, Ob.hd] at h ⊢; obtain ⟨b, vs, he, _⟩ := h; rw [h1, he]; exact ⟨h2, rfl, rfl⟩
  | bld T e bs => simp only [OR, Ob.hd] at h ⊢; obtain ⟨b, p, v, he, _⟩ := h; rw [h1, he]; exact ⟨h2, rfl, rfl⟩
  | prt e ts xs c => simp only [OR, Ob.hd] at h ⊢; obtain ⟨b, i, he, _⟩ := h; rw [h1, he]; exact ⟨h2, rfl, rfl⟩
  | arr d e ts xs =>
    obtain ⟨inner, hr⟩ := or_head h
    obtain ⟨A, c, he, _⟩ := own_form hr
    simp only [OR, Ob.hd]
    rw [h1, he]
    exact ⟨h2, rfl, rfl⟩

section
variable {P : Program} {X : Cx} {tm tm' : Tm} {ob ob' : List Ob} {a : Act} {w w' : World} {G G' : Gh} {M M' : List Nat}
theorem kg_cases {k : Nat} {g : Value × List Nat} (h : (killG M 0 G)[k]? = some g) : ∃ g0, G[k]? = some g0 ∧ g.1 = g0.1 ∧ ((k ∈ M ∧ g.2 = []) ∨ (k ∉ M ∧ g = g0)) := by
  rw [killG_get, Option.map_eq_some_iff] at h
  obtain ⟨g0, h1, h2⟩ := h
  rw [Nat.zero_add] at h2
  by_cases hm : k ∈ M
  · have : M.elem k = true := by simpa using hm
    rw [this] at h2
    subst h2
    exact ⟨g0, h1, rfl, .inl ⟨hm, rfl⟩⟩
  · have : M.elem k = false := by simpa using hm
    rw [this] at h2
    subst h2
    exact ⟨g0, h1, rfl, .inr ⟨hm, rfl⟩⟩
theorem mem_pick {k : Nat} {g : Value × List Nat} (hk : k ∈ M) (h : G[k]? = some g) {b : Nat} (hb : b ∈ g.2) : b ∈ fps (pickG G M) :=
  List.mem_flatMap.2 ⟨g, List.mem_map.2 ⟨k, hk, by rw [h]; rfl⟩, hb⟩
theorem pick_mem {b : Nat} (h : b ∈ fps (pickG G M)) : ∃ k g, k ∈ M ∧ G[k]? = some g ∧ b ∈ g.2 := by
  obtain ⟨g, hg, hb⟩ := List.mem_flatMap.1 h
  obtain ⟨k, hk, rfl⟩ := List.mem_map.1 hg
  cases hq : G[k]? with
  | none => rw [hq] at hb; simp at hb
  | some g => rw [hq] at hb; exact ⟨k, g, hk, hq, hb⟩

/-- What of the state does not hang on the objects M. -/
theorem sg_kill (hs : Sg X tm ob a w G) (M : List Nat) : ∃ X' : Cx, X'.N = X.N ∧ (∀ b ∈ fps (pickG G M), b ∈ X'.Z) ∧ GOK X' (kill M 0 ob) (killG M 0 G) w ∧ (∀ b, okG X.Z G b ↔ okG X'.Z (killG M 0 G) b) := by
  have hG := hs.gok
  have hlist : ∀ b, b ∈ fps G ↔ b ∈ fps (killG M 0 G) ∨ b ∈ fps (pickG G M) := by
    intro b
    constructor
    · intro h
      obtain ⟨k, g, hk, hb⟩ := fps_get h
      by_cases hm : k ∈ M
      · exact .inr (mem_pick hm hk hb)
      · left
        have : (killG M 0 G)[k]? = some g := by
          rw [killG_get, hk, Nat.zero_add]
          simp [hm]
        exact fps_mem this hb
    · rintro (h | h)
      · obtain ⟨k, g, hk, hb⟩ := fps_get h
        obtain ⟨g0, h1, h2, h3⟩ := kg_cases hk
        rcases h3 with ⟨_, h3⟩ | ⟨_, rfl⟩
        · rw [h3] at hb; simp at hb
        · exact fps_mem h1 hb
      · exact pick_sub b h
  have hok : ∀ b, okG X.Z G b ↔ okG (X.Z ++ fps (pickG G M)) (killG M 0 G) b := by
    intro b
    unfold okG
    rw [hlist b, List.mem_append]
    constructor
    · rintro ⟨h1, h2⟩; exact ⟨fun h => h1 (.inl h), fun h => h.elim h2 (fun h => h1 (.inr h))⟩
    · rintro ⟨h1, h2⟩; exact ⟨fun h => h.elim h1 (fun h => h2 (.inr h)), fun h => h2 (.inl h)⟩
  have hm : Mv w w (okG X.Z G) (okG (X.Z ++ fps (pickG G M)) (killG M 0 G)) G (killG M 0 G) (fun k => k) := by
    refine ⟨Nat.le_refl _, fun b hb _ => ⟨(hok b).1 hb, rfl⟩, fun k v g hg => ?_⟩
    rw [killG_get, hg, Nat.zero_add]
    cases M.elem k with
    | true => exact ⟨[], rfl⟩
    | false => exact ⟨g, rfl⟩
  refine ⟨⟨w, fps G, X.H, X.N, X.Z ++ fps (pickG G M)⟩, rfl, fun b hb => List.mem_append_right _ hb, ⟨?_, ?_, ?_, ?_, ?_, ?_, ?_⟩, hok⟩
  · rw [killG_len, kill_len]; exact hG.len
  · refine nodup_of (fun i g hi => ?_) (fun i j g g' hij hi hj b hb hb' => ?_)
    · obtain ⟨g0, h1, _, h3⟩ := kg_cases hi
      rcases h3 with ⟨_, h3⟩ | ⟨_, rfl⟩
      · rw [h3]; exact List.nodup_nil
      · exact nodup_each hG.nodup i _ h1
    · obtain ⟨g0, h1, _, h3⟩ := kg_cases hi
      obtain ⟨g1, h4, _, h5⟩ := kg_cases hj
      rcases h3 with ⟨_, h3⟩ | ⟨_, rfl⟩
      · rw [h3] at hb; simp at hb
      · rcases h5 with ⟨_, h5⟩ | ⟨_, rfl⟩
        · rw [h5] at hb'; simp at hb'
        · exact nodup_apart hG.nodup i j _ _ hij h1 h4 b hb hb'
  · intro b hb
    have := (hlist b).2 (.inl hb)
    exact ⟨(hG.lt b this).1, .inl this⟩
  · intro b hb hz
    rcases List.mem_append.1 hz with hz | hz
    · exact hG.z b ((hlist b).2 (.inl hb)) hz
    · obtain ⟨k, g, hk, hb⟩ := fps_get hb
      obtain ⟨g0, h1, _, h3⟩ := kg_cases hk
      rcases h3 with ⟨_, h3⟩ | ⟨hn, rfl⟩
      · rw [h3] at hb; simp at hb
      · obtain ⟨k', g', h4, h5, h6⟩ := pick_mem hz
        exact nodup_apart hG.nodup k k' _ _ (fun e => hn (e ▸ h4)) h1 h5 b hb h6
  · intro b hb
    rcases List.mem_append.1 hb with h | h
    · exact Nat.lt_of_lt_of_le (hG.zl b h) hs.kp.size
    · exact (hG.lt b (pick_sub b h)).1
  · intro k v hv
    obtain ⟨g, hg⟩ := hG.hd k v hv
    exact hm.G k v g hg
  · intro k o g ho hg
    rw [kill_get, Option.map_eq_some_iff] at ho
    obtain ⟨o0, h1, h2⟩ := ho
    rw [Nat.zero_add] at h2
    obtain ⟨g0, h3, h4, h5⟩ := kg_cases hg
    rcases h5 with ⟨hm', h5⟩ | ⟨hn, rfl⟩
    · have : M.elem k = true := by simpa using hm'
      rw [this] at h2
      subst h2
      exact hd_ok (hG.ob k _ _ h1 h3) h4 h5
    · have : M.elem k = false := by simpa using hn
      rw [this] at h2
      subst h2
      exact OR_mv' hm (fun b _ => rfl) (hG.ob k _ _ h1 h3)

def NQ (R : Act → World → Prop) : Exit → Act → World → Prop := fun e a w => e = .normal ∧ R a w
/-- The rest of a region that draws its order: the objects M may still change. -/
def HV (P : Program) (X : Cx) (ops : Array Oper) (R : Act → World → Prop) (M : List Nat) (fuel : Nat) (listed : Array Bool) (tm : Tm) (ob : List Ob) : Prop :=
  ∀ a w G, Sg X tm ob a w G → wpAnyH P .any ops (NQ R) (fun w' => Kp (fps (pickG G M)) w w') fuel listed a w

theorem wpAnyH_mono {ops : Array Oper} {Q : Exit → Act → World → Prop} {md : Region.Mode} {S S' : World → Prop} (hS : ∀ w, S' w → S w) : ∀ (fuel : Nat) (listed : Array Bool) (a : Act) (w : World), wpAnyH P md ops Q S' fuel listed a w → wpAnyH P md ops Q S fuel listed a w
  | 0, _, _, _, h => h
  | fuel + 1, listed, a, w, h => ⟨h.1, fun i hi => wpOp_mono (fun a' w' hh => ⟨hS _ hh.1, wpAnyH_mono hS fuel _ a' w' hh.2⟩) (h.2 i hi)⟩

theorem sim_drew (hs : Sim X tm ob a w) : Sim X tm ob a w.drew := sim_kp hs (Kp.refl [] w).drew

theorem cregh {Q : Exit → Act → World → Prop} {id : Nat} {l : List Oper} (M : List Nat) (hm : P.follows .mixedOrders = true) (h : HV P X l.toArray (fun a w => Q .normal a w) M l.toArray.size (Array.replicate l.toArray.size false) tm ob) : CV P X (.region id l.toArray true) Q tm ob := fun a w hs => by
  refine wp_mono (Q := NQ fun a w => Q .normal a w) ?_ (fun e a' w' hq => by obtain ⟨rfl, h⟩ := hq; exact h)
  have hs' := sim_drew hs
  obtain ⟨G, hG, hv⟩ := hs'.ex
  exact wp_region_held hm (h a w.drew G ⟨hs'.n, hs'.d, hs'.kp, hG, hv⟩)

variable {ops : Array Oper} {R : Act → World → Prop} {fuel : Nat} {listed : Array Bool}
theorem hnil {Q : Exit → Act → World → Prop} (hr : Region.ready .any ops listed = []) (h : XV X .normal Q tm ob) : HV P X ops (fun a w => Q .normal a w) M fuel listed tm ob := fun a w G hs =>
  wpAnyH_done hr ⟨rfl, h a w ⟨hs.n, hs.d, hs.kp, G, hs.gok, hs.hv⟩⟩ fuel

def takeB (ops : Array Oper) (listed : Array Bool) (i : Nat) : Bool := Region.noSelect ops && Region.free .any ops listed i && (Region.ready .any ops listed).contains i

theorem sg_put (hs : Sg X tm ob a w G) {d : Nat} {av : AV} {v : Value} (hd : d < X.N) (hvr : VR w (okG X.Z G) G av v) : Sg X ((d, av) :: tm) ob (a.put (some d) v) w G := by
  refine ⟨by rw [put_size]; exact hs.n, by rw [put_defers]; exact hs.d, hs.kp, hs.gok, fun t av' ht => ?_⟩
  rw [put_get (by rw [hs.n]; exact hd)]
  by_cases h : t = d
  · subst h
    simp only [get, if_true, Option.some.injEq] at ht
    subst ht
    exact ⟨hd, by simpa using hvr⟩
  · simp only [get, if_neg (Ne.symm h)] at ht
    simpa [h] using hs.hv t av' ht
theorem sg_sim (hs : Sg X tm ob a w G) : Sim X tm ob a w := ⟨hs.n, hs.d, hs.kp, G, hs.gok, hs.hv⟩

/-- A value that is computed: taken first. -/
theorem hval (i : Nat) {o : Oper} {d : Nat} {av : AV} (hi : ops[i]? = some o) (hc : takeB ops listed i = true) (hw : Wn ops o tm) (hN : d < X.N) (h : ∀ X' : Cx, Val P X' tm (kill M 0 ob) o av) (hd : o.dst = some d)
    (hr : HV P X ops R M fuel (listed.setIfInBounds i true) ((d, av) :: tm) ob) : HV P X ops R M (fuel + 1) listed tm ob := fun a w G hs => by
  simp only [takeB, Bool.and_eq_true] at hc
  obtain ⟨X', hX1, hX2, hX3, hX4⟩ := sg_kill hs M
  have hm : Mv w w (okG X.Z G) (okG X'.Z (killG M 0 G)) G (killG M 0 G) (fun k => k) := by
    refine ⟨Nat.le_refl _, fun b hb _ => ⟨(hX4 b).1 hb, rfl⟩, fun k v g hg => ?_⟩
    rw [killG_get, hg, Nat.zero_add]
    cases M.elem k with
    | true => exact ⟨[], rfl⟩
    | false => exact ⟨g, rfl⟩
  have hm' : Mv w w (okG X'.Z (killG M 0 G)) (okG X.Z G) (killG M 0 G) G (fun k => k) := by
    refine ⟨Nat.le_refl _, fun b hb _ => ⟨(hX4 b).2 hb, rfl⟩, fun k v g hg => ?_⟩
    obtain ⟨g0, h1, h2, _⟩ := kg_cases hg
    exact ⟨g0.2, by rw [h1]; simp only at h2; rw [h2]⟩
  obtain ⟨v, h1, h2⟩ := h X' a w (killG M 0 G) hX3 (fun x av hx => VR_mv' hm (rd_ok (X := X) hs.hv hx))
  refine wpAnyH_take (v := v) hi hc.1.1 hc.1.2 hc.2 (fun c a w hq => by cases hq.1) (.inl ⟨wn_ok hw (sg_sim hs), fun w' hw' => h1 w' (hw'.mono (fun b hb _ => hX2 b hb))⟩) (Kp.refl _ w) ?_
  rw [hd]
  exact hr _ _ _ (sg_put hs hN (VR_mv' hm' h2))
theorem hskipG {i t d j : Nat} {o : Oper} {av : AV} (hi : ops[i]? = some o) (hc : takeB ops listed i = true) (hno : ∀ a w G, Sg X tm ob a w G → Region.wanted o (yielded ops a.tmps) = false)
    (hd : o.dst = some d) (hN : d < X.N) (hr : HV P X ops R M fuel (listed.setIfInBounds i true) ((d, .tup []) :: tm) ob) : HV P X ops R M (fuel + 1) listed tm ob := fun a w G hs => by
  simp only [takeB, Bool.and_eq_true] at hc
  refine wpAnyH_take (v := undef) hi hc.1.1 hc.1.2 hc.2 (fun c a w hq => by cases hq.1) (.inr ⟨hno a w G hs, rfl⟩) (Kp.refl _ w) ?_
  rw [hd]
  exact hr _ _ _ (sg_put hs hN ⟨[], rfl, rfl⟩)
theorem hskip (i : Nat) {o : Oper} {j t d : Nat} {want x : Bool} (hi : ops[i]? = some o) (hc : takeB ops listed i = true) (hg : o.guard = some (j, want)) (hj : (ops[j]?).bind (·.dst) = some t) (ht : get tm t = some (.c .b x)) (hx : (x == want) = false)
    (hd : o.dst = some d) (hN : d < X.N) (hr : HV P X ops R M fuel (listed.setIfInBounds i true) ((d, .tup []) :: tm) ob) : HV P X ops R M (fuel + 1) listed tm ob :=
  hskipG (t := t) (j := j) (av := .z) hi hc (fun a w G hs => by
    obtain ⟨hn, hrr⟩ := hs.hv t _ ht
    simp only [VR, RS] at hrr
    have hlt : t < a.tmps.size := by rw [hs.n]; exact hn
    have h5 : a.tmps[t]? = some (.bool x) := by
      rw [Array.getD_eq_getD_getElem?, Array.getElem?_eq_getElem hlt] at hrr
      rw [Array.getElem?_eq_getElem hlt]
      simpa using hrr
    simp only [Region.wanted, hg, yielded, hj, Option.bind_some, h5]
    cases x <;> cases want <;> first | rfl | cases hx) hd hN hr
theorem hskipu (i : Nat) {o : Oper} {j t d : Nat} {want : Bool} (hi : ops[i]? = some o) (hc : takeB ops listed i = true) (hg : o.guard = some (j, want)) (hj : (ops[j]?).bind (·.dst) = some t) (ht : get tm t = some (.tup []))
    (hd : o.dst = some d) (hN : d < X.N) (hr : HV P X ops R M fuel (listed.setIfInBounds i true) ((d, .tup []) :: tm) ob) : HV P X ops R M (fuel + 1) listed tm ob :=
  hskipG (t := t) (j := j) (av := .z) hi hc (fun a w G hs => by
    obtain ⟨hn, hrr⟩ := hs.hv t _ ht
    simp only [VR, VRs] at hrr
    obtain ⟨vs, hrr, rfl⟩ := hrr
    have hlt : t < a.tmps.size := by rw [hs.n]; exact hn
    have h5 : a.tmps[t]? = some (.tuple #[]) := by
      rw [Array.getD_eq_getD_getElem?, Array.getElem?_eq_getElem hlt] at hrr
      rw [Array.getElem?_eq_getElem hlt]
      simpa using hrr
    simp only [Region.wanted, hg, yielded, hj, Option.bind_some, h5]
    rfl) hd hN hr
theorem hcase {t : Nat} {x : Bool} (ht : get tm t = some (.c .b x)) (h1 : x = true → HV P X ops R M fuel listed ((t, .c .b true) :: tm) ob) (h2 : x = false → HV P X ops R M fuel listed ((t, .c .b false) :: tm) ob) : HV P X ops R M fuel listed tm ob := fun a w G hs => by
  have key : ∀ y, x = y → Sg X ((t, .c .b y) :: tm) ob a w G := fun y hy => by
    refine ⟨hs.n, hs.d, hs.kp, hs.gok, fun t' av' ht' => ?_⟩
    by_cases h : t' = t
    · subst h
      simp only [get, if_true, Option.some.injEq] at ht'
      subst ht' hy
      exact hs.hv _ _ ht
    · simp only [get, if_neg (Ne.symm h)] at ht'
      exact hs.hv _ _ ht'
  cases hx : x with
  | true => exact h1 hx a w G (key _ hx)
  | false => exact h2 hx a w G (key _ hx)
theorem hfact {t : Nat} {ts : Tys} {xs : List ts.den} (ht : get tm t = some (.c (.l ts) xs)) (h : xs.length ≤ 9223372036854775807 → HV P X ops R M fuel listed tm ob) : HV P X ops R M fuel listed tm ob := fun a w G hs => by
  have h' := (hs.hv t _ ht).2
  simp only [VR, RS] at h'
  obtain ⟨A, c, _, hc, hm, _⟩ := h'
  exact h (by omega) a w G hs
theorem hfacts {t : Nat} {xs : List UInt8} (ht : get tm t = some (.c .s xs)) (h : xs.length ≤ 9223372036854775807 → HV P X ops R M fuel listed tm ob) : HV P X ops R M fuel listed tm ob := fun a w G hs =>
  h (vr_s (hs.hv t _ ht).2).2 a w G hs
theorem hfacti {t : Nat} {k : IntKind} {x : Int} (ht : get tm t = some (.c (.i k) x)) (h : k.wrap x = x → HV P X ops R M fuel listed tm ob) : HV P X ops R M fuel listed tm ob := fun a w G hs =>
  h (vr_i (hs.hv t _ ht).2).2 a w G hs
theorem hfacto {k : Nat} {d : Bool} {e : TypeId} {ts : Tys} {xs : List ts.den} (ho : ob[k]? = some (.arr d e ts xs)) (h : xs.length ≤ 9223372036854775807 → HV P X ops R M fuel listed tm ob) : HV P X ops R M fuel listed tm ob := fun a w G hs => by
  have hk : k < G.length := by rw [hs.gok.len]; exact (List.getElem?_eq_some_iff.1 ho).1
  obtain ⟨inner, hr⟩ := or_head (hs.gok.ob k _ _ ho (List.getElem?_eq_getElem hk))
  obtain ⟨A, c, he, hc, hm⟩ := own_form hr
  exact h (by omega) a w G hs
theorem hwi (h : Wi tm tm') (hr : HV P X ops R M fuel listed tm' ob) : HV P X ops R M fuel listed tm ob := fun a w G hs =>
  hr a w G ⟨hs.n, hs.d, hs.kp, hs.gok, fun t av ht => hs.hv t av (wi_get h ht)⟩

/-- Behind an operation that changed the objects M0. -/
theorem st_S {M0 : List Nat} (h : St X ob' G G' M0 w w') (hl : G.length = ob.length) (h0 : M0.all (M.elem ·) = true) (h1 : M'.all (fun i => M.elem i || Nat.ble ob.length i) = true) :
    Kp (fps (pickG G M)) w w' ∧ ∀ w'', Kp (fps (pickG G' M')) w' w'' → Kp (fps (pickG G M)) w w'' := by
  have hM0 : ∀ k ∈ M0, k ∈ M := fun k hk => by simpa using List.all_eq_true.1 h0 k hk
  have hsub : ∀ b, b ∈ fps (pickG G M0) → b ∈ fps (pickG G M) := fun b hb => by
    obtain ⟨k, g, h2, h3, h4⟩ := pick_mem hb
    exact mem_pick (hM0 k h2) h3 h4
  have hk : Kp (fps (pickG G M)) w w' := h.kp.mono (fun b hb _ => hsub b hb)
  refine ⟨hk, fun w'' h2 => ?_⟩
  refine ⟨h2.os.trans hk.os, h2.tape.trans hk.tape, h2.output.trans hk.output, Nat.le_trans hk.size h2.size, fun k hk' hn => (h2.block k (Nat.lt_of_lt_of_le hk' hk.size) (fun hm => hn ?_)).trans (hk.block k hk' hn)⟩
  obtain ⟨i, g, h3, h4, h5⟩ := pick_mem hm
  have h6 := List.all_eq_true.1 h1 i h3
  simp only [Bool.or_eq_true, List.elem_eq_mem, decide_eq_true_eq, Nat.ble_eq] at h6
  by_cases hi : i ∈ M0 ∨ G.length ≤ i
  · rcases h.ne i g h4 hi k h5 with h7 | h7
    · exact hsub k h7
    · omega
  · have hi0 : i ∉ M0 := fun e => hi (.inl e)
    have hil : i < G.length := Nat.lt_of_not_le fun e => hi (.inr e)
    have := h.fr i _ hi0 (List.getElem?_eq_getElem hil)
    rw [this] at h4
    simp only [Option.some.injEq] at h4
    subst h4
    refine mem_pick (k := i) ?_ (List.getElem?_eq_getElem hil) h5
    rcases h6 with h6 | h6
    · exact h6
    · omega

theorem sg_st {M0 : List Nat} (hs : Sg X tm ob a w G) (h : St X ob' G G' M0 w w') : Sg X tm ob' a w' G' :=
  ⟨hs.n, hs.d, kp_step hs.kp hs.gok h.kpG, h.gok, fun t av ht => ⟨(hs.hv t av ht).1, VR_mv' (mv_step h.kpG h.hd h.sub) (hs.hv t av ht).2⟩⟩

/-- Which object an operation may change, and what may change behind it. -/
def effB (M M0 M' : List Nat) (n : Nat) : Bool := M0.all (M.elem ·) && M'.all (fun i => M.elem i || Nat.ble n i)
theorem readyOne {j : Nat} (hr : Region.ready .any ops listed = [j]) {K : Nat → Prop} (h : K j) : ∀ i ∈ ([j] : List Nat), K i := fun i hi => by
  simp only [List.mem_singleton] at hi; subst hi; exact h

theorem wpOp_of {j : Nat} {o : Oper} {Q : Exit → Act → World → Prop} {K : Act → World → Prop} (hj : ops[j]? = some o) (hwn : Region.wanted o (yielded ops a.tmps) = true) (h : o.wp P a w K Q) : wpOp P ops Q j K a w := by
  unfold wpOp
  simp only [hj, hwn, if_true]
  exact .inl h

/-- Whichever comes up. -/
theorem hall {rs : List Nat} (hr : Region.ready .any ops listed = rs) (hne : rs.isEmpty = false)
    (h : ∀ a w G, Sg X tm ob a w G → ∀ i ∈ rs, wpOp P ops (NQ R) i (fun a' w' => Kp (fps (pickG G M)) w w' ∧ wpAnyH P .any ops (NQ R) (fun w' => Kp (fps (pickG G M)) w w') fuel (listed.setIfInBounds i true) a' w') a w) : HV P X ops R M (fuel + 1) listed tm ob := fun a w G hs =>
  wpAnyH_all hr (by rintro rfl; cases hne) (h a w G hs)

/-- An operation that changes the world, one that comes up. -/
def EV (P : Program) (X : Cx) (ops : Array Oper) (R : Act → World → Prop) (M : List Nat) (fuel : Nat) (listed : Array Bool) (tm : Tm) (ob : List Ob) (j : Nat) : Prop :=
  ∀ a w G, Sg X tm ob a w G → wpOp P ops (NQ R) j (fun a' w' => Kp (fps (pickG G M)) w w' ∧ wpAnyH P .any ops (NQ R) (fun w' => Kp (fps (pickG G M)) w w') fuel (listed.setIfInBounds j true) a' w') a w
theorem hone {j : Nat} (hr : Region.ready .any ops listed = [j]) (h : EV P X ops R M fuel listed tm ob j) : HV P X ops R M (fuel + 1) listed tm ob :=
  hall hr rfl fun a w G hs i hi => by simp only [List.mem_singleton] at hi; subst hi; exact h a w G hs
theorem htwo {j k : Nat} (hr : Region.ready .any ops listed = [j, k]) (h : EV P X ops R M fuel listed tm ob j) (h2 : EV P X ops R M fuel listed tm ob k) : HV P X ops R M (fuel + 1) listed tm ob :=
  hall hr rfl fun a w G hs i hi => by
    simp only [List.mem_cons, List.not_mem_nil, or_false] at hi
    rcases hi with rfl | rfl
    · exact h a w G hs
    · exact h2 a w G hs
theorem hthree {j k l : Nat} (hr : Region.ready .any ops listed = [j, k, l]) (h : EV P X ops R M fuel listed tm ob j) (h2 : EV P X ops R M fuel listed tm ob k) (h3 : EV P X ops R M fuel listed tm ob l) : HV P X ops R M (fuel + 1) listed tm ob :=
  hall hr rfl fun a w G hs i hi => by
    simp only [List.mem_cons, List.not_mem_nil, or_false] at hi
    rcases hi with rfl | rfl | rfl
    · exact h a w G hs
    · exact h2 a w G hs
    · exact h3 a w G hs

theorem ev_core {j : Nat} {o : Oper} {M0 : List Nat} {v : Value} (hs : Sg X tm ob a w G) (hst : St X ob' G G' M0 w w') (hM : effB M M0 M' ob.length = true) {tm' : Tm} {a' : Act} (hsg : Sg X tm' ob' a' w' G')
    (hr : HV P X ops R M' fuel (listed.setIfInBounds j true) tm' ob') : Kp (fps (pickG G M)) w w' ∧ wpAnyH P .any ops (NQ R) (fun w' => Kp (fps (pickG G M)) w w') fuel (listed.setIfInBounds j true) a' w' := by
  simp only [effB, Bool.and_eq_true] at hM
  obtain ⟨h1, h2⟩ := st_S (M' := M') hst hs.gok.len hM.1 hM.2
  exact ⟨h1, wpAnyH_mono h2 _ _ _ _ (hr _ _ _ hsg)⟩
theorem hsto {j : Nat} {o : Oper} {d : Nat} {av : AV} {M0 : List Nat} (M' : List Nat) (hj : ops[j]? = some o) (hw : Wn ops o tm) (hN : d < X.N) (hd : o.dst = some d) (h : Sto P X tm ob M0 ob' o av) (hM : effB M M0 M' ob.length = true)
    (hr : HV P X ops R M' fuel (listed.setIfInBounds j true) ((d, av) :: tm) ob') : EV P X ops R M fuel listed tm ob j := fun a w G hs => by
  obtain ⟨v, w', G', h1, h2, h3⟩ := h a w G hs.kp.size hs.gok (fun x av hx => rd_ok (X := X) hs.hv hx)
  refine wpOp_of hj (wn_ok hw (sg_sim hs)) ?_
  unfold Oper.wp
  rw [h1]
  simp only [Oper.upon]
  rw [hd]
  exact ev_core (o := o) (v := v) hs h2 hM (sg_put (sg_st hs h2) hN h3) hr
theorem hsto0 {j : Nat} {o : Oper} {M0 : List Nat} (M' : List Nat) (hj : ops[j]? = some o) (hw : Wn ops o tm) (hd : o.dst = none) (h : Sto0 P X tm ob M0 ob' o) (hM : effB M M0 M' ob.length = true)
    (hr : HV P X ops R M' fuel (listed.setIfInBounds j true) tm ob') : EV P X ops R M fuel listed tm ob j := fun a w G hs => by
  obtain ⟨w', G', h1, h2⟩ := h a w G hs.kp.size hs.gok (fun x av hx => rd_ok (X := X) hs.hv hx)
  refine wpOp_of hj (wn_ok hw (sg_sim hs)) ?_
  unfold Oper.wp
  rw [h1]
  simp only [Oper.upon]
  rw [hd]
  exact ev_core (o := o) (v := undef) hs h2 hM (sg_st hs h2) hr
/-- A value that hangs on what may change, where it comes up. -/
theorem hvalx {j : Nat} {o : Oper} {d : Nat} {av : AV} (hj : ops[j]? = some o) (hw : Wn ops o tm) (hN : d < X.N) (hd : o.dst = some d) (h : Val P X tm ob o av)
    (hr : HV P X ops R M fuel (listed.setIfInBounds j true) ((d, av) :: tm) ob) : EV P X ops R M fuel listed tm ob j := fun a w G hs => by
  obtain ⟨v, h1, h2⟩ := h a w G hs.gok (fun x av hx => rd_ok (X := X) hs.hv hx)
  refine wpOp_of hj (wn_ok hw (sg_sim hs)) ?_
  unfold Oper.wp
  rw [h1 w (Kp.refl _ _)]
  simp only [Oper.upon]
  rw [hd]
  exact ⟨Kp.refl _ _, hr _ _ _ (sg_put hs hN h2)⟩

/-- A call in a state. -/
theorem call_sg {f : Nat} {ι κ : Type} {avf : ι → List AV} {obf : ι → List Ob} {pre : ι → Prop} {post : ι → κ → Prop} {F : ι → κ → AV × List Ob} (hF : Fy P f avf obf pre post F) (x : ι) (hx : pre x) (ks vs : List Nat)
    (hs : Sg X tm ob a w G) (hkn : ks.Nodup) (hap : ∀ k ∈ ks, k ∉ vs) (ho : Wo ob (kf ob.length ks) ks (obf x)) (hlen : ∀ y, ks.length ≤ (F x y).2.length) (hfree : vs = [] ∨ ∀ y, ((F x y).1.free = true ∧ ∀ o ∈ (F x y).2, o.free = true)) {vals : List Value}
    (hvals : ∀ G, GOK X ob G w → (∀ t av, get tm t = some av → t < X.N ∧ VR w (okG X.Z G) G av (a.tmps.getD t undef)) → ∀ (Zc : List Nat) (Gc : Gh), Mv w w (okG X.Z G) (okG Zc Gc) G Gc (kf ob.length ks) →
      (∀ k ∈ vs, ∀ g, G[k]? = some g → ∀ b ∈ g.2, okG Zc Gc b) → VRs w (okG Zc Gc) Gc (avf x) vals) :
    Calls P f ⟨vals⟩ w fun e w' => ∃ y, post x y ∧ ∃ v Gn, e = .returned v ∧ St X (newob ob ks (F x y).2) G Gn ks w w' ∧ VR w' (okG X.Z Gn) Gn ((F x y).1.ren (gf ob.length ks)) v := by
  obtain ⟨h1, h2, h3, h4⟩ := call_in hs.gok hs.kp.size hkn hap ho
  refine (hF x hx w (pickG G ks) (zc X G ks vs) vals h1 (hvals G hs.gok hs.hv _ _ h2 h3)).mono ?_
  rintro e w' ⟨y, hy, v, G', rfl, hk, hG', hr⟩
  obtain ⟨Gn, g1, g2, g3, g4, g5, g6⟩ := call_out hs.gok hs.kp.size hkn h4 (hlen y) (hfree.imp id (fun h => h y)) hk hG' hr
  exact ⟨y, hy, v, Gn, rfl, ⟨hk, g1, g3, g5, g6⟩, g2⟩

variable {dst : Option Nat} {ty : TypeId} {pos : String} {after : Array Edge} {gd : Option (Nat × Bool)}
theorem hcally {j f : Nat} {ι κ : Type} {avf : ι → List AV} {obf : ι → List Ob} {pre : ι → Prop} {post : ι → κ → Prop} {F : ι → κ → AV × List Ob} {xs : List Operand} {ats : Array TypeId} {d : Nat} (hF : Fr P f avf obf pre post F) (x : ι) (ks vs M' : List Nat)
    (hj : ops[j]? = some ⟨some d, .call { callee := .value (.func f), args := xs.toArray, argTypes := ats }, ty, pos, after, gd⟩)
    (ha : Ars tm ob (kf ob.length ks) vs xs (avf x)) (hx : pre x)
    (hw : Wn ops ⟨some d, .call { callee := .value (.func f), args := xs.toArray, argTypes := ats }, ty, pos, after, gd⟩ tm) (hkn : ks.Nodup) (hap : ∀ k ∈ ks, k ∉ vs) (ho : Wo ob (kf ob.length ks) ks (obf x)) (hlen : ∀ y, ks.length ≤ (F x y).2.length) (hfree : vs = [] ∨ ∀ y, ((F x y).1.free = true ∧ ∀ o ∈ (F x y).2, o.free = true))
    (hN : d < X.N) (hM : effB M ks M' ob.length = true)
    (hr : ∀ y, post x y → HV P X ops R M' fuel (listed.setIfInBounds j true) ((d, (F x y).1.ren (gf ob.length ks)) :: tm) (newob ob ks (F x y).2)) : EV P X ops R M fuel listed tm ob j := fun a w G hs => by
  refine wpOp_of hj (wn_ok hw (sg_sim hs)) ?_
  unfold Oper.wp
  rw [run_call hF.1, Oper.upon_enter]
  refine (call_sg hF.2 x hx ks vs hs hkn hap ho hlen hfree (fun G hG hv Zc Gc m hvs => Ars_ok m hG hv hvs ha)).mono ?_
  rintro e w' ⟨y, hy, v, Gn, rfl, g1, g2⟩
  exact ev_core (o := ⟨some d, .call { callee := .value (.func f), args := xs.toArray, argTypes := ats }, ty, pos, after, gd⟩) (v := v) hs g1 hM (sg_put (sg_st hs g1) hN g2) (hr y hy)
end
end Go.Proofs.YtifpekpmnlcmoaaE
