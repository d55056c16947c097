/- What the abstract heap says of a real world, and the first operations of the quick machine, sound. -/
import Derived.Test.YtphfoenmfkibdaaGreatDoorMA
import Derived.Below
import Derived.Laws.Sem
import Derived.Laws.Entries
import Derived.Laws.Strings
set_option linter.unusedSectionVars false
set_option linter.unusedVariables false
set_option linter.unusedSimpArgs false
set_option maxRecDepth 1000000
namespace Go.FX

/-! ### What symbols stand for -/

class Sym where
  val : Nat → Nat
  lt : ∀ n, val n < 18446744073709551616
  odd : ∀ n, n % 2 = 1 → val n < 2305843009213693951
  rem : ∀ n, n % 2 = 0 → val (2 * 2 ^ (32 * n) + 1) = val n % 2305843009213693951
  /-- one octet -/
  oct : Nat
variable [Sym]

/-! ### Where blocks lie -/

structure Info where
  loose : Bool
  esz : Nat
  n : Nat
  total : Nat
/-- A block of the abstract heap: no value names it yet; it was let go; it lies in a block, from a place on. -/
inductive Stat where
  | fresh
  | dead
  | at (b s : Nat) (i : Info)
abbrev Rho := Nat → Stat

def AR (ρ : Rho) (a a' : Addr) : Prop :=
  match ρ a.block with
  | .fresh => False
  | .dead => True
  | .at b s _ => a.spot = none ∧ a' = ⟨b, a.off + s, none⟩
def MR (ρ : Rho) (r r' : Nat) : Prop :=
  match ρ r with
  | .fresh => False
  | .dead => True
  | .at b s _ => s = 0 ∧ r' = b
def SR (ρ : Rho) (a a' : Addr) (n c c' : Nat) : Prop :=
  n ≤ c ∧ c ≤ c' ∧ ρ a.block ≠ .fresh ∧ ((c = 0 ∧ c' = 0) ∨
  match ρ a.block with
  | .fresh => False
  | .dead => True
  | .at b s i => a.spot = none ∧ a' = ⟨b, a.off + s, none⟩ ∧ (c' = c ∨ (i.loose = true ∧ a.off + c * i.esz = i.n ∧ a.off + s + c' * i.esz ≤ i.total)))
def FnR (ρ : Rho) (f f' : Fn) : Prop :=
  match f with
  | .yield l => ∃ l', f' = .yield l' ∧ MR ρ l l'
  | f => f' = f

mutual
/-- An abstract value and a real one. -/
inductive VR (ρ : Rho) : Value → Value → Prop
  | bool (b : Bool) : VR ρ (.bool b) (.bool b)
  | int (k : IntKind) (n : Int) : VR ρ (.int k n) (.int k n)
  | string (s : ByteArray) : VR ρ (.string s) (.string s)
  | ptrNil : VR ρ (.pointer none) (.pointer none)
  | ptr {a a' : Addr} (h : AR ρ a a') : VR ρ (.pointer (some a)) (.pointer (some a'))
  | sliceNil : VR ρ (.slice none 0 0) (.slice none 0 0)
  | slice {a a' : Addr} {n c c' : Nat} (h : SR ρ a a' n c c') : VR ρ (.slice (some a) n c) (.slice (some a') n c')
  | mapNil : VR ρ (.map none) (.map none)
  | map {r r' : Nat} (h : MR ρ r r') : VR ρ (.map (some r)) (.map (some r'))
  | func {f f' : Fn} {xs ys xs' ys' : Array Value} (hf : FnR ρ f f') (hx : VRs ρ xs.toList xs'.toList) (hy : VRs ρ ys.toList ys'.toList) : VR ρ (.func f xs ys) (.func f' xs' ys')
  | nilFunc : VR ρ .nilFunc .nilFunc
  | iface {t : TypeId} {v v' : Value} (h : VR ρ v v') : VR ρ (.iface t v) (.iface t v')
  | nilIface : VR ρ .nilIface .nilIface
  | agg {xs xs' : Array Value} (h : VRs ρ xs.toList xs'.toList) : VR ρ (.agg xs) (.agg xs')
  | tuple {xs xs' : Array Value} (h : VRs ρ xs.toList xs'.toList) : VR ρ (.tuple xs) (.tuple xs')
  | sym (n : Nat) : VR ρ (.chan (some n)) (.int .u64 (Sym.val n))
  | oct : VR ρ (.chan none) (.int .u8 (.ofNat Sym.oct))
inductive VRs (ρ : Rho) : List Value → List Value → Prop
  | nil : VRs ρ [] []
  | cons {v v' : Value} {vs vs' : List Value} (h : VR ρ v v') (hs : VRs ρ vs vs') : VRs ρ (v :: vs) (v' :: vs')
end

/-- Blocks that lie somewhere stay there, or are let go. -/
def Later (ρ ρ' : Rho) : Prop := ∀ k, match ρ k with
  | .fresh => True
  | .dead => ρ' k = .dead
  | .at b s i => ρ' k = .at b s i ∨ ρ' k = .dead
theorem Later.refl (ρ : Rho) : Later ρ ρ := fun k => by cases h : ρ k <;> simp
theorem Later.trans {ρ ρ' ρ'' : Rho} (h : Later ρ ρ') (h' : Later ρ' ρ'') : Later ρ ρ'' := fun k => by
  have a := h k; have b := h' k
  cases e : ρ k with
  | fresh => trivial
  | dead => simp only [e] at a; simp only [a] at b; exact b
  | «at» x y z =>
    simp only [e] at a
    rcases a with a | a
    · simp only [a] at b; exact b
    · simp only [a] at b; exact .inr b
theorem AR.later {ρ ρ' : Rho} (h : Later ρ ρ') {a a' : Addr} (r : AR ρ a a') : AR ρ' a a' := by
  unfold AR at *
  have := h a.block
  cases e : ρ a.block with
  | fresh => simp only [e] at r
  | dead => simp only [e] at this; simp only [this]
  | «at» x y z =>
    simp only [e] at this r
    rcases this with t | t <;> simp only [t]
    exact r
theorem MR.later {ρ ρ' : Rho} (h : Later ρ ρ') {a a' : Nat} (r : MR ρ a a') : MR ρ' a a' := by
  unfold MR at *
  have := h a
  cases e : ρ a with
  | fresh => simp only [e] at r
  | dead => simp only [e] at this; simp only [this]
  | «at» x y z =>
    simp only [e] at this r
    rcases this with t | t <;> simp only [t]
    exact r
theorem SR.later {ρ ρ' : Rho} (h : Later ρ ρ') {a a' : Addr} {n c c' : Nat} (r : SR ρ a a' n c c') : SR ρ' a a' n c c' := by
  unfold SR at *
  have := h a.block
  refine ⟨r.1, r.2.1, fun e => ?_, ?_⟩
  · cases e' : ρ a.block with
    | fresh => exact r.2.2.1 e'
    | dead => simp only [e'] at this; rw [this] at e; cases e
    | «at» x y z => simp only [e'] at this; rcases this with t | t <;> (rw [t] at e; cases e)
  rcases r.2.2.2 with r | r
  · exact .inl r
  · right
    cases e : ρ a.block with
    | fresh => simp only [e] at r
    | dead => simp only [e] at this; simp only [this]
    | «at» x y z =>
      simp only [e] at this r
      rcases this with t | t <;> simp only [t]
      exact r
theorem FnR.later {ρ ρ' : Rho} (h : Later ρ ρ') {f f' : Fn} (r : FnR ρ f f') : FnR ρ' f f' := by
  cases f <;> simp only [FnR] at * <;> first | exact r | (obtain ⟨l, e, m⟩ := r; exact ⟨l, e, m.later h⟩)
mutual
theorem VR.later {ρ ρ' : Rho} (h : Later ρ ρ') {v v' : Value} : VR ρ v v' → VR ρ' v v'
  | .bool b => .bool b
  | .int k n => .int k n
  | .string s => .string s
  | .ptrNil => .ptrNil
  | .ptr r => .ptr (r.later h)
  | .sliceNil => .sliceNil
  | .slice r => .slice (r.later h)
  | .mapNil => .mapNil
  | .map r => .map (r.later h)
  | .func f x y => .func (f.later h) (VRs.later h x) (VRs.later h y)
  | .nilFunc => .nilFunc
  | .iface r => .iface (VR.later h r)
  | .nilIface => .nilIface
  | .agg r => .agg (VRs.later h r)
  | .tuple r => .tuple (VRs.later h r)
  | .sym n => .sym n
  | .oct => .oct
theorem VRs.later {ρ ρ' : Rho} (h : Later ρ ρ') {v v' : List Value} : VRs ρ v v' → VRs ρ' v v'
  | .nil => .nil
  | .cons a b => .cons (VR.later h a) (VRs.later h b)
end

theorem VRs.length {ρ : Rho} : ∀ {xs ys : List Value}, VRs ρ xs ys → xs.length = ys.length
  | _, _, .nil => rfl
  | _, _, .cons _ h => by simp [VRs.length h]
theorem VRs.append {ρ : Rho} : ∀ {xs ys us vs : List Value}, VRs ρ xs ys → VRs ρ us vs → VRs ρ (xs ++ us) (ys ++ vs)
  | _, _, _, _, .nil, h => h
  | _, _, _, _, .cons a b, h => .cons a (VRs.append b h)
theorem VRs.get {ρ : Rho} : ∀ {xs ys : List Value} (_ : VRs ρ xs ys) (j : Nat) (v : Value), xs[j]? = some v → ∃ v', ys[j]? = some v' ∧ VR ρ v v'
  | _, _, .nil, j, v, e => by simp at e
  | _, _, .cons a b, 0, v, e => by simp at e; subst e; exact ⟨_, rfl, a⟩
  | _, _, .cons a b, j + 1, v, e => by simp at e; exact VRs.get b j v e
theorem VRs.of_get {ρ : Rho} : ∀ {xs ys : List Value}, xs.length = ys.length → (∀ (j : Nat) (v : Value), xs[j]? = some v → ∃ v', ys[j]? = some v' ∧ VR ρ v v') → VRs ρ xs ys
  | [], [], _, _ => .nil
  | [], _ :: _, h, _ => by simp at h
  | _ :: _, [], h, _ => by simp at h
  | x :: xs, y :: ys, h, g => by
    obtain ⟨v', e, r⟩ := g 0 x rfl
    simp at e; subst e
    exact .cons r (VRs.of_get (by simpa using h) fun (j : Nat) (v : Value) e => by have := g (j + 1) v (by simpa using e); simpa using this)

/-! ### Values of temporaries -/

def FVR (ρ : Rho) (x : FV) (v' : Value) : Prop :=
  match x with
  | .u => True
  | x => VR ρ (FV.v x) v'
theorem FVR.later {ρ ρ' : Rho} (h : Later ρ ρ') {x : FV} {v' : Value} (r : FVR ρ x v') : FVR ρ' x v' := by
  cases x <;> simp only [FVR] at * <;> exact VR.later h r
theorem v_ofV (v : Value) : FV.v (ofV v) = v := by
  unfold ofV
  split <;> rfl
theorem ofV_ne (v : Value) : ofV v ≠ .u := by
  unfold ofV
  split <;> simp
theorem FVR.of {ρ : Rho} {x : FV} {v' : Value} (h : VR ρ (FV.v x) v') : FVR ρ x v' := by
  cases x <;> simp only [FVR] <;> exact h
theorem FVR.ofV {ρ : Rho} {v v' : Value} (h : VR ρ v v') : FVR ρ (ofV v) v' := .of (by rw [v_ofV]; exact h)
/-- The package's variables lie where they lay, or are not known. -/
def GR (ρ : Rho) : Prop := ∀ g, g < gMost → ρ g = .dead ∨ ∃ i, ρ g = .at g 0 i
theorem GR.later {ρ ρ' : Rho} (h : Later ρ ρ') (r : GR ρ) : GR ρ' := fun g hg => by
  have a := h g
  rcases r g hg with e | ⟨i, e⟩
  · simp only [e] at a; exact .inl a
  · simp only [e] at a
    rcases a with a | a
    · exact .inr ⟨i, a⟩
    · exact .inl a
structure TR (ρ : Rho) (tm : Tm) (a : Array Value) : Prop where
  g : GR ρ
  t : ∀ t, t < tmMost → FVR ρ (Tm.at tm t) (a.getD t undef)
theorem TR.later {ρ ρ' : Rho} (h : Later ρ ρ') {tm : Tm} {a : Array Value} (r : TR ρ tm a) : TR ρ' tm a := ⟨r.g.later h, fun t ht => (r.t t ht).later h⟩

/-! ### Values without an address -/

mutual
theorem VR.closed {ρ : Rho} : ∀ (n : Nat) (v : Value), closedV n v = true → VR ρ v v
  | 0, v, h => by simp [closedV] at h
  | n + 1, v, h => by
    unfold closedV at h
    split at h
    · exact .bool _
    · exact .int _ _
    · exact .string _
    · exact .ptrNil
    · exact .sliceNil
    · exact .mapNil
    · exact .nilFunc
    · exact .nilIface
    · rw [Bool.and_eq_true] at h; exact .func rfl (VRs.closed n _ h.1) (VRs.closed n _ h.2)
    · exact .iface (VR.closed n _ h)
    · exact .agg (VRs.closed n _ h)
    · exact .tuple (VRs.closed n _ h)
    · cases h
theorem VRs.closed {ρ : Rho} : ∀ (n : Nat) (vs : List Value), allV (closedV n) vs = true → VRs ρ vs vs
  | _, [], _ => .nil
  | n, v :: vs, h => by
    unfold allV at h
    rw [Bool.and_eq_true] at h
    exact .cons (VR.closed n v h.1) (VRs.closed n vs h.2)
end
theorem undef_VR {ρ : Rho} : VR ρ undef undef := .tuple .nil
/-- An operand is what it is. -/
theorem TR.ev {ρ : Rho} {tm : Tm} {a : Act} (r : TR ρ tm a.tmps) (x : Operand) : FVR ρ (ev tm x) (a.eval x) := by
  cases x with
  | tmp t =>
    show FVR ρ (if t < tmMost then Tm.at tm t else .u) _
    split
    · rename_i h; exact r.t t h
    · trivial
  | const v =>
    have h := v_ofV v
    show FVR ρ (match ofV v with | .i k n => .i k n | .b t => .b t | .o v => (if closedV 6 v = true then .o v else .u) | _ => .u) v
    cases e : ofV v with
    | i k n => rw [e] at h; simp only [FV.v] at h; subst h; exact .int _ _
    | b t => rw [e] at h; simp only [FV.v] at h; subst h; exact .bool _
    | p k o => trivial
    | s k o n c => trivial
    | o u =>
      rw [e] at h; simp only [FV.v] at h; subst h
      simp only []
      split
      · rename_i c; exact VR.closed 6 _ c
      · trivial
    | u => trivial
  | global g =>
    show FVR ρ (if g < gMost then .p g 0 else .u) _
    split
    · rename_i h
      show VR ρ _ _
      refine .ptr ?_
      unfold AR
      rcases r.g g h with e | ⟨i, e⟩
      · simp only [e]
      · simp [e]
    · trivial
  | func f => exact .func rfl .nil .nil

/-! ### Blocks -/

inductive All2 {α β : Type} (r : α → β → Prop) : List α → List β → Prop
  | nil : All2 r [] []
  | cons {a : α} {b : β} {as : List α} {bs : List β} (h : r a b) (hs : All2 r as bs) : All2 r (a :: as) (b :: bs)
theorem All2.imp {α β : Type} {r q : α → β → Prop} (f : ∀ a b, r a b → q a b) : ∀ {as : List α} {bs : List β}, All2 r as bs → All2 q as bs
  | _, _, .nil => .nil
  | _, _, .cons h hs => .cons (f _ _ h) (All2.imp f hs)
theorem All2.length {α β : Type} {r : α → β → Prop} : ∀ {as : List α} {bs : List β}, All2 r as bs → as.length = bs.length
  | _, _, .nil => rfl
  | _, _, .cons _ hs => by simp [All2.length hs]
theorem All2.append {α β : Type} {r : α → β → Prop} : ∀ {as us : List α} {bs vs : List β}, All2 r as bs → All2 r us vs → All2 r (as ++ us) (bs ++ vs)
  | _, _, _, _, .nil, h => h
  | _, _, _, _, .cons h hs, g => .cons h (All2.append hs g)
structure EntR (ρ : Rho) (e : Entry) (e' : MapEntry) : Prop where
  key : VR ρ e.key e'.key
  val : VR ρ e.val e'.val
  born : e.born = e'.born
theorem EntR.later {ρ ρ' : Rho} (h : Later ρ ρ') {e : Entry} {e' : MapEntry} (r : EntR ρ e e') : EntR ρ' e e' := ⟨r.key.later h, r.val.later h, r.born⟩
def PendR (p : Option Ex) (c : Option Code) : Prop :=
  match p with
  | none => c = none
  | some .normal => False
  | some (.exit id) => c = some (.exit id)
  | some .ret => c = some .ret
def BR (ρ : Rho) (s : Nat) (i : Info) (B : Blk) (o : Obj) : Prop :=
  match B with
  | .cells vs _ z l => ∃ c ct lo hi, o = .cells c ct (lo, hi) ∧ i = ⟨l, z, vs.length, c.size⟩ ∧ s + vs.length ≤ c.size ∧ (((l = true ∨ z ≠ 1000) → ∀ j, j < c.size → ¬ (lo ≤ j ∧ j < hi)) ∧ (l = false → z ≠ 1000 → hi ≤ lo)) ∧
      ∀ j v, vs[j]? = some v → ∃ v', c[s + j]? = some v' ∧ VR ρ v v'
  | .map es cl => s = 0 ∧ ∃ es', o = .map es' cl ∧ All2 (EntR ρ) es es'.toList
  | .sIter b p => s = 0 ∧ o = .stringIter b p
  | .mIter m since seen st => s = 0 ∧ ∃ m', o = .mapIter m' since seen.toArray st ∧ (match m with | none => m' = none | some r => ∃ r', m' = some r' ∧ MR ρ r r')
  | .loop st pd fn tm ps as bd df => s = 0 ∧ ∃ lp : Loop, o = .loop lp ∧ lp.state = st ∧ PendR pd lp.pending ∧ lp.tmps.size = fn ∧ TR ρ tm lp.tmps ∧ lp.params.toList = ps ∧ lp.assign = as ∧ lp.body = bd ∧ MR ρ df lp.defers
  | .defer live => s = 0 ∧ o = .deferred (if live then some [] else none)
theorem BR.later {ρ ρ' : Rho} (h : Later ρ ρ') {s : Nat} {i : Info} {B : Blk} {o : Obj} (r : BR ρ s i B o) : BR ρ' s i B o := by
  cases B with
  | cells vs e z l =>
    obtain ⟨c, ct, lo, hi, e1, e2, e3, e4, e5⟩ := r
    exact ⟨c, ct, lo, hi, e1, e2, e3, e4, fun j v hj => let ⟨v', a, b⟩ := e5 j v hj; ⟨v', a, b.later h⟩⟩
  | map es cl => obtain ⟨e1, es', e2, e3⟩ := r; exact ⟨e1, es', e2, e3.imp fun _ _ => EntR.later h⟩
  | sIter b p => exact r
  | mIter m since seen st =>
    obtain ⟨e1, m', e2, e3⟩ := r
    refine ⟨e1, m', e2, ?_⟩
    cases m with
    | none => exact e3
    | some q => obtain ⟨q', a, b⟩ := e3; exact ⟨q', a, b.later h⟩
  | loop st pd fn tm ps as bd df => obtain ⟨e1, lp, a, b, c, d, e, f, g, i, j⟩ := r; exact ⟨e1, lp, a, b, c, d, e.later h, f, g, i, j.later h⟩
  | defer live => exact r

/-- The abstract heap and the real world. -/
structure HR (ρ : Rho) (h : Heap) (w : World) : Prop where
  wf : T.wf dH h.t
  blk : ∀ k, match ρ k with
    | .fresh => True
    | .dead => h.get k = none
    | .at b s i => ∃ B o, h.get k = some B ∧ w.heap[b]? = some o ∧ BR ρ s i B o
  inj : ∀ k k' b s i s' i', ρ k = .at b s i → ρ k' = .at b s' i' → k = k'
  nx : ∀ k, h.nx ≤ k → ρ k = .fresh
  top : ∀ k, h.nx ≤ k → h.get k = none
theorem HR.at {ρ : Rho} {h : Heap} {w : World} (hr : HR ρ h w) {k b s : Nat} {i : Info} (e : ρ k = .at b s i) : ∃ B o, h.get k = some B ∧ w.heap[b]? = some o ∧ BR ρ s i B o := by
  have := hr.blk k
  simp only [e] at this
  exact this
theorem HR.dead {ρ : Rho} {h : Heap} {w : World} (hr : HR ρ h w) {k : Nat} (e : ρ k = .dead) : h.get k = none := by
  have := hr.blk k
  simp only [e] at this
  exact this
/-- A live block that a value names lies somewhere. -/
theorem HR.live {ρ : Rho} {h : Heap} {w : World} (hr : HR ρ h w) {k : Nat} {B : Blk} (e : h.get k = some B) (hf : ρ k ≠ .fresh) : ∃ b s i o, ρ k = .at b s i ∧ w.heap[b]? = some o ∧ BR ρ s i B o := by
  cases hk : ρ k with
  | fresh => exact absurd hk hf
  | dead => rw [hr.dead hk] at e; cases e
  | «at» b s i =>
    obtain ⟨B', o, h1, h2, h3⟩ := hr.at hk
    rw [e] at h1; cases h1
    exact ⟨b, s, i, o, rfl, h2, h3⟩

/-- What became of it all: blocks that lay somewhere lie there still or were let go; what was made late is as it was; nothing else in memory has turned. -/
structure Ext (lo : Nat) (ρ : Rho) (h : Heap) (w : World) (ρ' : Rho) (h' : Heap) (w' : World) : Prop where
  later : Later ρ ρ'
  fresh : ∀ k, k < h.nx → ρ k = .fresh → ρ' k = .fresh ∧ (h'.get k = h.get k ∨ h'.get k = none)
  new : ∀ k b s i, lo ≤ k → ρ' k = .at b s i → w.heap.size ≤ b ∨ ∃ k0 s0 i0, lo ≤ k0 ∧ ρ k0 = .at b s0 i0
  nx : h.nx ≤ h'.nx
  size : w.heap.size ≤ w'.heap.size
  keep : ∀ b, b < w.heap.size → (∀ k s i, lo ≤ k → ρ k ≠ .at b s i) → w'.heap[b]? = w.heap[b]?
  os : w'.os = w.os
  tape : w'.tape = w.tape
  output : w'.output = w.output
theorem Ext.refl (lo : Nat) (ρ : Rho) (h : Heap) (w : World) : Ext lo ρ h w ρ h w :=
  ⟨.refl ρ, fun _ _ e => ⟨e, .inl rfl⟩, fun k b s i hk e => .inr ⟨k, s, i, hk, e⟩, Nat.le_refl _, Nat.le_refl _, fun _ _ _ => rfl, rfl, rfl, rfl⟩
theorem Ext.trans {lo : Nat} {ρ ρ' ρ'' : Rho} {h h' h'' : Heap} {w w' w'' : World} (a : Ext lo ρ h w ρ' h' w') (b : Ext lo ρ' h' w' ρ'' h'' w'') : Ext lo ρ h w ρ'' h'' w'' where
  later := a.later.trans b.later
  fresh k hk e := by
    obtain ⟨e1, e2⟩ := a.fresh k hk e
    obtain ⟨e3, e4⟩ := b.fresh k (Nat.lt_of_lt_of_le hk a.nx) e1
    refine ⟨e3, ?_⟩
    rcases e4 with e4 | e4
    · rw [e4]; exact e2
    · exact .inr e4
  new k x s i hk e := by
    rcases b.new k x s i hk e with g | ⟨k0, s0, i0, g1, g2⟩
    · exact .inl (Nat.le_trans a.size g)
    · exact a.new k0 x s0 i0 g1 g2
  nx := Nat.le_trans a.nx b.nx
  size := Nat.le_trans a.size b.size
  keep x hx g := by
    refine (b.keep x (Nat.lt_of_lt_of_le hx a.size) fun k s i hk e => ?_).trans (a.keep x hx g)
    rcases a.new k x s i hk e with g' | ⟨k0, s0, i0, g1, g2⟩
    · omega
    · exact g k0 s0 i0 g1 g2
  os := b.os.trans a.os
  tape := b.tape.trans a.tape
  output := b.output.trans a.output
end Go.FX
namespace Go.FX
variable [Sym]

theorem T.get_lt {α : Type} : ∀ (d : Nat) (t : T α) (k : Nat) (x : α), T.wf d t → T.get t k = some x → k < 2 ^ d
  | d, .nil, k, x, _, h => by rw [T.get_nil] at h; cases h
  | 0, .leaf y, k, x, _, h => by
    rw [T.get_leaf] at h
    by_cases e : k = 0
    · subst e; decide
    · rw [if_neg e] at h; cases h
  | d + 1, .leaf y, k, x, w, h => w.elim
  | 0, .node l r, k, x, w, h => w.elim
  | d + 1, .node l r, k, x, w, h => by
    rw [T.get_node] at h
    rw [Nat.pow_succ]
    by_cases e : k % 2 = 0
    · rw [if_pos e] at h; have := T.get_lt d l _ _ w.1 h; omega
    · rw [if_neg e] at h; have := T.get_lt d r _ _ w.2 h; omega

theorem leaf_none {α : Type} (x : α) (k : Nat) (h : k ≠ 0) : T.get (.leaf x) k = none := by rw [T.get_leaf, if_neg h]
theorem leaf_some {α : Type} (x : α) : T.get (.leaf x) 0 = some x := by rw [T.get_leaf, if_pos rfl]
theorem Heap.get_put {h : Heap} (hw : T.wf dH h.t) {k : Nat} (hk : k < 2 ^ dH) (B : Blk) (j : Nat) : (h.put k B).get j = if j = k then some B else h.get j := by
  cases h with
  | mk t n =>
    show T.get (T.set dH t k (.leaf B)) j = _
    rw [T.get_set _ (leaf_none B) dH t k j hw hk, leaf_some]; rfl
theorem Heap.get_kill {h : Heap} (hw : T.wf dH h.t) {k : Nat} (hk : k < 2 ^ dH) (j : Nat) : (h.kill k).get j = if j = k then none else h.get j := by
  cases h with
  | mk t n =>
    show T.get (T.set dH t k .nil) j = _
    rw [T.get_set _ (fun k _ => T.get_nil k) dH t k j hw hk, T.get_nil]; rfl
theorem Heap.put_nx (h : Heap) (k : Nat) (B : Blk) : (h.put k B).nx = h.nx := rfl
theorem Heap.kill_nx (h : Heap) (k : Nat) : (h.kill k).nx = h.nx := rfl
theorem Heap.put_wf {h : Heap} (hw : T.wf dH h.t) (k : Nat) (B : Blk) : T.wf dH (h.put k B).t := T.wf_set (fun d e => by subst e; trivial) dH _ _ hw
theorem Heap.kill_wf {h : Heap} (hw : T.wf dH h.t) (k : Nat) : T.wf dH (h.kill k).t := T.wf_set (fun d e => by subst e; trivial) dH _ _ hw
theorem Heap.get_lt {h : Heap} (hw : T.wf dH h.t) {k : Nat} {B : Blk} (e : h.get k = some B) : k < 2 ^ dH := T.get_lt dH _ _ _ hw e
/-- The heap behind a new block. -/
noncomputable def Heap.made (h : Heap) (B : Blk) : Heap := ⟨T.set dH h.t h.nx (.leaf B), h.nx + 1⟩
theorem Heap.new_eq {h : Heap} {B : Blk} {c : Nat → Heap → R} {L : List (FV × Heap)} (e : Heap.new h B c = some L) : h.nx < 2 ^ dH ∧ c h.nx (h.made B) = some L := by
  cases h with
  | mk t n =>
    have e' : (Bool.rec none (c n ⟨T.set dH t n (.leaf B), Nat.succ n⟩) (Nat.ble n 131000) : R) = some L := e
    cases hb : Nat.ble n 131000 with
    | false => rw [hb] at e'; cases e'
    | true =>
      rw [hb] at e'
      have : n ≤ 131000 := Nat.le_of_ble_eq_true hb
      refine ⟨?_, e'⟩
      show n < 2 ^ 17
      omega
theorem Heap.get_made {h : Heap} (hw : T.wf dH h.t) (hk : h.nx < 2 ^ dH) (B : Blk) (j : Nat) : (h.made B).get j = if j = h.nx then some B else h.get j := by
  show T.get (T.set dH h.t h.nx (.leaf B)) j = _
  rw [T.get_set _ (leaf_none B) dH h.t _ j hw hk, leaf_some]; rfl
theorem Heap.made_wf {h : Heap} (hw : T.wf dH h.t) (B : Blk) : T.wf dH (h.made B).t := T.wf_set (fun d e => by subst e; trivial) dH _ _ hw

def upd (ρ : Rho) (k : Nat) (s : Stat) : Rho := fun j => if j = k then s else ρ j
theorem upd_at (ρ : Rho) (k : Nat) (s : Stat) : upd ρ k s k = s := by simp [upd]
theorem upd_ne {ρ : Rho} {k j : Nat} {s : Stat} (h : j ≠ k) : upd ρ k s j = ρ j := by simp [upd, h]
theorem later_fresh {ρ : Rho} {k : Nat} {s : Stat} (h : ρ k = .fresh) : Later ρ (upd ρ k s) := fun j => by
  by_cases e : j = k
  · subst e; simp only [h]
  · cases hj : ρ j <;> simp [upd_ne e, hj]
theorem later_kill {ρ : Rho} {k : Nat} (hf : ρ k ≠ .fresh) : Later ρ (upd ρ k .dead) := fun j => by
  by_cases e : j = k
  · subst e
    cases hj : ρ j with
    | fresh => exact absurd hj hf
    | dead => simp [upd_at]
    | «at» b s i => simp [upd_at]
  · cases hj : ρ j <;> simp [upd_ne e, hj]

/-- Worlds of one memory are of no difference. -/
theorem HR.congr {ρ : Rho} {h : Heap} {w w' : World} (hr : HR ρ h w) (e : w'.heap = w.heap) : HR ρ h w' := ⟨hr.wf, by rw [e]; exact hr.blk, hr.inj, hr.nx, hr.top⟩
theorem Ext.drew {lo : Nat} {ρ : Rho} {h : Heap} {w : World} (n : Nat) : Ext lo ρ h w ρ h { w with drawn := n } :=
  { Ext.refl lo ρ h w with }

/-- One real block is turned, and the abstract one with it. -/
theorem HR.turn {ρ : Rho} {h : Heap} {w w' : World} (hr : HR ρ h w) {k b s : Nat} {i : Info} (hk : ρ k = .at b s i) {B : Blk} {o : Obj}
    (hb : w'.heap[b]? = some o) (hne : ∀ j, j ≠ b → w'.heap[j]? = w.heap[j]?) (hB : BR ρ s i B o) : HR ρ (h.put k B) w' where
  wf := Heap.put_wf hr.wf k B
  blk j := by
    obtain ⟨B0, o0, g1, g2, g3⟩ := hr.at hk
    have hlt := Heap.get_lt hr.wf g1
    by_cases e : j = k
    · subst e
      simp only [hk]
      exact ⟨B, o, by rw [Heap.get_put hr.wf hlt, if_pos rfl], hb, hB⟩
    · have := hr.blk j
      cases hj : ρ j with
      | fresh => trivial
      | dead => simp only [hj] at this; simp only [Heap.get_put hr.wf hlt, if_neg e, this]
      | «at» b' s' i' =>
        simp only [hj] at this
        obtain ⟨B1, o1, f1, f2, f3⟩ := this
        refine ⟨B1, o1, by rw [Heap.get_put hr.wf hlt, if_neg e]; exact f1, ?_, f3⟩
        rw [hne b' (fun eb => e (hr.inj j k b' s' i' s i hj (by rw [eb]; exact hk)))]
        exact f2
  inj := hr.inj
  nx := hr.nx
  top j hj := by
    obtain ⟨B0, o0, g1, g2, g3⟩ := hr.at hk
    rw [Heap.get_put hr.wf (Heap.get_lt hr.wf g1), if_neg (by intro e; subst e; have := hr.nx j hj; rw [hk] at this; cases this)]
    exact hr.top j hj
theorem Ext.turn {lo : Nat} {ρ : Rho} {h : Heap} {w w' : World} (hr : HR ρ h w) {k b s : Nat} {i : Info} (hlo : lo ≤ k) (hk : ρ k = .at b s i) {B : Blk}
    (hne : ∀ j, j ≠ b → w'.heap[j]? = w.heap[j]?) (hsz : w'.heap.size = w.heap.size) (ho : w'.os = w.os) (ht : w'.tape = w.tape) (hou : w'.output = w.output) : Ext lo ρ h w ρ (h.put k B) w' where
  later := .refl ρ
  fresh j hj e := by
    obtain ⟨B0, o0, g1, g2, g3⟩ := hr.at hk
    refine ⟨e, .inl ?_⟩
    rw [Heap.get_put hr.wf (Heap.get_lt hr.wf g1), if_neg (by intro e'; subst e'; rw [hk] at e; cases e)]
  new j x y z hj e := .inr ⟨j, y, z, hj, e⟩
  nx := Nat.le_refl _
  size := by omega
  keep x hx g := hne x (fun e => g k s i hlo (by rw [e]; exact hk))
  os := ho
  tape := ht
  output := hou

/-- A new real block, and the abstract one with it. -/
theorem HR.make {ρ : Rho} {h : Heap} {w : World} (hr : HR ρ h w) (hn : h.nx < 2 ^ dH) {B : Blk} {o : Obj} {i : Info} {w' : World} (hw : w'.heap = w.heap.push o)
    (hB : BR ρ 0 i B o) : HR (upd ρ h.nx (.at w.heap.size 0 i)) (h.made B) w' := by
  have hf : ρ h.nx = .fresh := hr.nx _ (Nat.le_refl _)
  have hl := later_fresh (s := .at w.heap.size 0 i) hf
  have hlt : ∀ j b s i, ρ j = .at b s i → b < w.heap.size := fun j b s i e => by
    obtain ⟨_, _, _, g, _⟩ := hr.at e
    rcases Nat.lt_or_ge b w.heap.size with c | c
    · exact c
    · rw [Array.getElem?_eq_none c] at g; cases g
  refine ⟨Heap.made_wf hr.wf B, fun j => ?_, fun j j' b s i1 s' i1' e e' => ?_, fun j hj => ?_, fun j hj => ?_⟩
  · by_cases e : j = h.nx
    · subst e
      rw [upd_at]
      exact ⟨B, o, by rw [Heap.get_made hr.wf hn, if_pos rfl], by rw [hw]; simp, hB.later hl⟩
    · rw [upd_ne e]
      have := hr.blk j
      cases hj : ρ j with
      | fresh => trivial
      | dead => simp only [hj] at this; simp only [Heap.get_made hr.wf hn, if_neg e, this]
      | «at» b' s' i' =>
        simp only [hj] at this
        obtain ⟨B1, o1, f1, f2, f3⟩ := this
        refine ⟨B1, o1, by rw [Heap.get_made hr.wf hn, if_neg e]; exact f1, ?_, f3.later hl⟩
        rw [hw, Array.getElem?_push, if_neg (by have := hlt j b' s' i' hj; omega)]
        exact f2
  · by_cases c : j = h.nx <;> by_cases c' : j' = h.nx
    · rw [c, c']
    · subst c
      rw [upd_at] at e; cases e
      rw [upd_ne c'] at e'
      exact absurd (hlt _ _ _ _ e') (by omega)
    · subst c'
      rw [upd_at] at e'; cases e'
      rw [upd_ne c] at e
      exact absurd (hlt _ _ _ _ e) (by omega)
    · rw [upd_ne c] at e; rw [upd_ne c'] at e'
      exact hr.inj _ _ _ _ _ _ _ e e'
  · rw [upd_ne (by have : h.nx + 1 ≤ j := hj; omega)]
    exact hr.nx j (by have : h.nx + 1 ≤ j := hj; omega)
  · have hj' : h.nx + 1 ≤ j := hj
    rw [Heap.get_made hr.wf hn, if_neg (by omega)]
    exact hr.top j (by omega)
theorem Ext.make {lo : Nat} {ρ : Rho} {h : Heap} {w : World} (hr : HR ρ h w) (hn : h.nx < 2 ^ dH) {B : Blk} {o : Obj} {i : Info} {w' : World} (hw : w'.heap = w.heap.push o)
    (ho : w'.os = w.os) (ht : w'.tape = w.tape) (hou : w'.output = w.output) : Ext lo ρ h w (upd ρ h.nx (.at w.heap.size 0 i)) (h.made B) w' where
  later := later_fresh (hr.nx _ (Nat.le_refl _))
  fresh j hj e := ⟨by rw [upd_ne (by omega)]; exact e, .inl (by rw [Heap.get_made hr.wf hn, if_neg (by omega)])⟩
  new j x y z hj e := by
    by_cases c : j = h.nx
    · subst c; rw [upd_at] at e; cases e; exact .inl (Nat.le_refl _)
    · rw [upd_ne c] at e; exact .inr ⟨j, y, z, hj, e⟩
  nx := Nat.le_succ _
  size := by rw [hw]; simp
  keep x hx g := by rw [hw, Array.getElem?_push, if_neg (by omega)]
  os := ho
  tape := ht
  output := hou

/-- A block is let go. -/
theorem HR.kill {ρ : Rho} {h : Heap} {w : World} (hr : HR ρ h w) {k : Nat} (hf : ρ k ≠ .fresh) (hlt : k < 2 ^ dH) : HR (upd ρ k .dead) (h.kill k) w := by
  have hl := later_kill hf
  refine ⟨Heap.kill_wf hr.wf k, fun j => ?_, fun j j' b s i1 s' i1' e e' => ?_, fun j hj => ?_, fun j hj => ?_⟩
  · by_cases e : j = k
    · subst e; rw [upd_at]
      show (h.kill j).get j = none
      rw [Heap.get_kill hr.wf hlt, if_pos rfl]
    · rw [upd_ne e]
      have := hr.blk j
      cases hj : ρ j with
      | fresh => trivial
      | dead => simp only [hj] at this; simp only [Heap.get_kill hr.wf hlt, if_neg e, this]
      | «at» b' s' i' =>
        simp only [hj] at this
        obtain ⟨B1, o1, f1, f2, f3⟩ := this
        exact ⟨B1, o1, by rw [Heap.get_kill hr.wf hlt, if_neg e]; exact f1, f2, f3.later hl⟩
  · have c : j ≠ k := fun c => by subst c; rw [upd_at] at e; cases e
    have c' : j' ≠ k := fun c => by subst c; rw [upd_at] at e'; cases e'
    rw [upd_ne c] at e; rw [upd_ne c'] at e'
    exact hr.inj _ _ _ _ _ _ _ e e'
  · have hj' := hr.nx j hj
    by_cases e : j = k
    · subst e; exact absurd hj' hf
    · rw [upd_ne e]; exact hj'
  · rw [Heap.get_kill hr.wf hlt]
    split
    · rfl
    · exact hr.top j hj
theorem Ext.kill {lo : Nat} {ρ : Rho} {h : Heap} {w : World} (hr : HR ρ h w) {k : Nat} (hf : ρ k ≠ .fresh) (hlt : k < 2 ^ dH) : Ext lo ρ h w (upd ρ k .dead) (h.kill k) w where
  later := later_kill hf
  fresh j hj e := by
    have c : j ≠ k := fun c => by subst c; exact hf e
    exact ⟨by rw [upd_ne c]; exact e, .inl (by rw [Heap.get_kill hr.wf hlt, if_neg c])⟩
  new j x y z hj e := by
    have c : j ≠ k := fun c => by subst c; rw [upd_at] at e; cases e
    rw [upd_ne c] at e; exact .inr ⟨j, y, z, hj, e⟩
  nx := Nat.le_refl _
  size := Nat.le_refl _
  keep _ _ _ := rfl
  os := rfl
  tape := rfl
  output := rfl
end Go.FX
namespace Go.FX
variable [Sym]

/-! ### Tables -/

structure EnvOk (P : Program) (E : Env) : Prop where
  tt : ∀ t i, T.get E.tt t = some i → P.info? t = some i
  ft : ∀ f fn, T.get E.ft f = some fn → P.funcs[f]? = some fn
  mixed : P.follows .mixedOrders = true
section
variable {P : Program} {E : Env} (ok : EnvOk P E)
include ok
theorem und_ok {t : TypeId} {d : TypeDesc} (h : E.und t = some d) : P.underlying t = some d := by
  unfold Env.und at h
  cases hi : T.get E.tt t with
  | none => simp only [hi] at h; cases h
  | some i =>
    simp only [hi] at h
    have h1 := ok.tt _ _ hi
    unfold Program.underlying
    rw [h1]
    obtain ⟨desc, a1, a2, a3, a4, a5, a6, a7, a8, a9⟩ := i
    cases desc with
    | named n u =>
      simp only [] at h
      cases hu : T.get E.tt u with
      | none => simp only [hu] at h; cases h
      | some j =>
        simp only [hu] at h
        simp only [ok.tt _ _ hu, Option.map_some]
        exact h
    | _ => simp only [] at h ⊢; exact h
theorem run_und {t : TypeId} {d : TypeDesc} (h : E.und t = some d) (w : World) : (underlying t).run P w = .ok d w := run_underlying (und_ok ok h) w
theorem run_info {t : TypeId} {i : TypeInfo} (h : T.get E.tt t = some i) (w : World) : (typeInfo t).run P w = .ok i w := by
  unfold typeInfo program
  simp [Sem.run, ok.tt _ _ h]
theorem run_size {t : TypeId} {n : Nat} (h : E.size t = some n) (w : World) : (sizeOf t).run P w = .ok n w := by
  unfold Env.size at h
  cases hi : T.get E.tt t with
  | none => simp only [hi] at h; cases h
  | some i =>
    simp only [hi] at h
    cases h
    unfold sizeOf
    simp [run_info ok hi]
theorem run_agg {t : TypeId} {d : TypeDesc} (h : E.und t = some d) (w : World) : (isAgg t).run P w = .ok (isAggD d) w := by
  unfold isAgg
  simp only [Sem.run_bind, run_und ok h, Result.andThen_ok]
  cases d <;> rfl
theorem zeroV_ok {t : TypeId} {z : Value} (h : E.zeroV t = some z) : (∀ w, (zeroValue t).run P w = .ok z w) ∧ closedV 6 z = true := by
  unfold Env.zeroV at h
  cases hi : T.get E.tt t with
  | none => simp only [hi] at h; cases h
  | some i =>
    simp only [hi] at h
    cases hz : i.zero with
    | none => simp only [hz] at h; cases h
    | some v =>
      simp only [hz] at h
      cases hc : closedV 6 v with
      | false => rw [hc] at h; cases h
      | true =>
        rw [hc] at h; cases h
        refine ⟨fun w => ?_, hc⟩
        unfold zeroValue
        simp [run_info ok hi, hz]
theorem zero_ok {t : TypeId} {zs : List Value} (h : E.zero t = some zs) : ∃ z, (∀ w, (zeroValue t).run P w = .ok z w) ∧ z.cells.toList = zs ∧ ∀ ρ, VRs ρ zs zs := by
  unfold Env.zero at h
  cases hi : T.get E.tt t with
  | none => simp only [hi] at h; cases h
  | some i =>
    simp only [hi] at h
    cases hz : i.zero with
    | none => simp only [hz] at h; cases h
    | some v =>
      simp only [hz] at h
      have hr : ∀ w, (zeroValue t).run P w = .ok v w := fun w => by unfold zeroValue; simp [run_info ok hi, hz]
      cases v with
      | agg cs =>
        simp only [] at h
        cases hc : allV (closedV 5) cs.toList with
        | false => rw [hc] at h; cases h
        | true => rw [hc] at h; cases h; exact ⟨_, hr, rfl, fun ρ => VRs.closed 5 _ hc⟩
      | _ =>
        simp only [] at h
        generalize hb : (closedV 6 _ && flat1 _) = b at h
        cases b with
        | false => cases h
        | true =>
          cases h
          rw [Bool.and_eq_true] at hb
          exact ⟨_, hr, rfl, fun ρ => .cons (VR.closed 6 _ hb.1) .nil⟩
end

/-! ### What values are -/

theorem asInt_some {v : FV} {c : IntKind → Int → R} {L : List (FV × Heap)} (h : asInt v c = some L) : ∃ k n, v = .i k n ∧ c k n = some L := by
  cases v <;> first | (exact ⟨_, _, rfl, h⟩) | (exact absurd h (by simp [asInt]))
theorem asIntS_some {v : FV} {c : IntKind → Int → R} {d : R} {L : List (FV × Heap)} (h : asIntS v c d = some L) : (∃ k n, v = .i k n ∧ c k n = some L) ∨ d = some L := by
  cases v <;> first | (exact .inl ⟨_, _, rfl, h⟩) | (exact .inr h) | (exact absurd h (by simp [asIntS]))
theorem asBool_some {v : FV} {c : Bool → R} {L : List (FV × Heap)} (h : asBool v c = some L) : ∃ t, v = .b t ∧ c t = some L := by
  cases v <;> first | (exact ⟨_, rfl, h⟩) | (exact absurd h (by simp [asBool]))
theorem asPtr_some {v : FV} {c : Nat → Nat → R} {L : List (FV × Heap)} (h : asPtr v c = some L) : ∃ k o, v = .p k o ∧ c k o = some L := by
  cases v <;> first | (exact ⟨_, _, rfl, h⟩) | (exact absurd h (by simp [asPtr]))
theorem asSlice_some {v : FV} {c : Nat → Nat → Nat → Nat → R} {L : List (FV × Heap)} (h : asSlice v c = some L) : ∃ k o n m, v = .s k o n m ∧ c k o n m = some L := by
  cases v <;> first | (exact ⟨_, _, _, _, rfl, h⟩) | (exact absurd h (by simp [asSlice]))
theorem asO_some {v : FV} {c : Value → R} {L : List (FV × Heap)} (h : asO v c = some L) : ∃ u, v = .o u ∧ c u = some L := by
  cases v <;> first | (exact ⟨_, rfl, h⟩) | (exact absurd h (by simp [asO]))
theorem known_some {v : FV} {c : FV → R} {L : List (FV × Heap)} (h : known v c = some L) : v ≠ .u ∧ c v = some L := by
  cases v <;> first | (exact ⟨by simp, h⟩) | (exact absurd h (by simp [known]))
theorem asNat_some {v : FV} {c : Nat → R} {L : List (FV × Heap)} (h : asNat v c = some L) : ∃ k n, v = .i k (.ofNat n) ∧ c n = some L := by
  obtain ⟨k, n, e, h⟩ := asInt_some h
  cases n with
  | ofNat n => exact ⟨k, n, e, h⟩
  | negSucc n => exact absurd h (by simp)
theorem sameKind_some {k j : IntKind} {c : R} {L : List (FV × Heap)} (h : sameKind k j c = some L) : k = j ∧ c = some L := by
  unfold sameKind at h
  cases e : Nat.beq (kno' k) (kno' j) with
  | false => rw [e] at h; cases h
  | true => rw [e] at h; exact ⟨kno'_inj k j e, h⟩
theorem rec_true {b : Bool} {c : R} {L : List (FV × Heap)} (h : (Bool.rec none c b : R) = some L) : b = true ∧ c = some L := by
  cases b with
  | false => cases h
  | true => exact ⟨rfl, h⟩
theorem rec_false {b : Bool} {c : R} {L : List (FV × Heap)} (h : (Bool.rec c none b : R) = some L) : b = false ∧ c = some L := by
  cases b with
  | true => cases h
  | false => exact ⟨rfl, h⟩

section
variable {ρ : Rho} {v' : Value}
theorem FVR.i_inv {k : IntKind} {n : Int} (h : FVR ρ (.i k n) v') : v' = .int k n := by
  have h' : VR ρ (.int k n) v' := h
  cases h'; rfl
theorem FVR.b_inv {t : Bool} (h : FVR ρ (.b t) v') : v' = .bool t := by
  have h' : VR ρ (.bool t) v' := h
  cases h'; rfl
theorem FVR.p_inv {k o : Nat} (h : FVR ρ (.p k o) v') : ∃ a', v' = .pointer (some a') ∧ AR ρ ⟨k, o, none⟩ a' := by
  have h' : VR ρ (.pointer (some ⟨k, o, none⟩)) v' := h
  cases h' with | ptr g => exact ⟨_, rfl, g⟩
theorem FVR.s_inv {k o n c : Nat} (h : FVR ρ (.s k o n c) v') : ∃ a' c', v' = .slice (some a') n c' ∧ SR ρ ⟨k, o, none⟩ a' n c c' := by
  have h' : VR ρ (.slice (some ⟨k, o, none⟩) n c) v' := h
  cases h' with | slice g => exact ⟨_, _, rfl, g⟩
theorem FVR.o_inv {v : Value} (h : FVR ρ (.o v) v') : VR ρ v v' := h
theorem FVR.known_inv {x : FV} (hx : x ≠ .u) (h : FVR ρ x v') : VR ρ (FV.v x) v' := by
  cases x <;> first | exact h | exact absurd rfl hx
theorem VR.string_inv {s : ByteArray} (h : VR ρ (.string s) v') : v' = .string s := by cases h; rfl
theorem VR.bool_inv {s : Bool} (h : VR ρ (.bool s) v') : v' = .bool s := by cases h; rfl
theorem VR.int_inv {k : IntKind} {s : Int} (h : VR ρ (.int k s) v') : v' = .int k s := by cases h; rfl
theorem VR.sym_inv {n : Nat} (h : VR ρ (.chan (some n)) v') : v' = .int .u64 (Sym.val n) := by cases h; rfl
theorem VR.agg_inv {xs : Array Value} (h : VR ρ (.agg xs) v') : ∃ ys, v' = .agg ys ∧ VRs ρ xs.toList ys.toList := by cases h with | agg g => exact ⟨_, rfl, g⟩
theorem VR.tuple_inv {xs : Array Value} (h : VR ρ (.tuple xs) v') : ∃ ys, v' = .tuple ys ∧ VRs ρ xs.toList ys.toList := by cases h with | tuple g => exact ⟨_, rfl, g⟩
end

/-! ### Operations without memory -/

/-- What an operation of the model does, with its value. -/
def Does (P : Program) (o : Oper) (a : Act) (w : World) (v' : Value) (w' : World) : Prop :=
  (execOp a.eval o).run P w = .ok (.value v') w' ∨ ((execOp a.eval o).run P w = .ok .skip w' ∧ v' = undef)
def PureS (P : Program) (g : FR → Tm → Heap → K → R) (o : Oper) : Prop :=
  ∀ r tm h k L, g r tm h k = some L → ∃ v, k v h = some L ∧ ∀ ρ (a : Act) w, TR ρ tm a.tmps → ∃ v', Does P o a w v' w ∧ FVR ρ v v'
theorem run_v {P : Program} {s : Sem Value} {w w' : World} {x : Value} (h : s.run P w = .ok x w') : (do pure (Next.value (← s)) : Sem Next).run P w = .ok (.value x) w' := by
  simp [h]
theorem run_u {P : Program} {s : Sem Unit} {w w' : World} (h : s.run P w = .ok () w') : (do s; pure Next.skip : Sem Next).run P w = .ok .skip w' := by
  simp [h]
theorem noOp_pure (P : Program) (o : Oper) : PureS P noOp.g o := fun _ _ _ _ _ h => absurd h (by simp [noOp])

section
variable {P : Program} {E : Env} {o : Oper}
theorem move_pure {x : Operand} (ho : o.op = .move x ∨ o.op = .assign x) : PureS P (fun _ tm h k => k ((opd x).f tm) h) o := by
  intro r tm h k L e
  refine ⟨_, e, fun ρ a w ht => ⟨a.eval x, .inl ?_, by rw [opd_f]; exact ht.ev x⟩⟩
  rcases ho with ho | ho <;> (unfold execOp; rw [ho]; rfl)
theorem pick_pure {c x y : Operand} (ho : o.op = .pick c x y) :
    PureS P (fun _ tm h k => asBool ((opd c).f tm) fun t => Bool.rec (k ((opd y).f tm) h) (k ((opd x).f tm) h) t) o := by
  intro r tm h k L e
  obtain ⟨t, e1, e2⟩ := asBool_some e
  rw [opd_f] at e1
  cases t with
  | true =>
    refine ⟨_, e2, fun ρ a w ht => ⟨a.eval x, .inl ?_, by rw [opd_f]; exact ht.ev x⟩⟩
    have hb := ht.ev c; rw [e1] at hb
    unfold execOp; rw [ho]; simp [FVR.b_inv hb]; rfl
  | false =>
    refine ⟨_, e2, fun ρ a w ht => ⟨a.eval y, .inl ?_, by rw [opd_f]; exact ht.ev y⟩⟩
    have hb := ht.ev c; rw [e1] at hb
    unfold execOp; rw [ho]; simp [FVR.b_inv hb]; rfl
end
end Go.FX
namespace Go.FX
variable [Sym]
section
variable {P : Program} {E : Env} {o : Oper}
theorem guard_int (op : BinOp) (t : TypeId) (x y : Operand) (k j : IntKind) (m n : Int) (w : World) : (eqGuard op t x y (.int k m) (.int j n)).run P w = .ok () w := by
  unfold eqGuard
  cases op <;> rfl
theorem does_bin {op : BinOp} {t yt : TypeId} {x y : Operand} (ho : o.op = .binOp op t x y yt) {a : Act} {w : World} {u v r : Value} (hx : a.eval x = u) (hy : a.eval y = v)
    (hg : (eqGuard op t x y u v).run P w = .ok () w) (hr : (Go.binOp op t u v).run P w = .ok r w) : Does P o a w r w := by
  left
  unfold execOp
  rw [ho]
  simp only [hx, hy]
  refine run_v ?_
  simp [hg, hr]
theorem arith_pure {f : Nat → Nat → Nat → Nat} {slow : IntKind → Int → Int → Int} (g : Good f slow) {op : BinOp} {t yt : TypeId} {x y : Operand} (ho : o.op = .binOp op t x y yt)
    (hr : ∀ k m n w, (Go.binOp op t (.int k m) (.int k n)).run P w = .ok (.int k (slow k m n)) w) : PureS P (arith (binU f slow) (opd x) (opd y)).g o := by
  intro r tm h k L e
  have e' : asInt ((opd x).f tm) (fun i m => asInt ((opd y).f tm) fun j n => sameKind i j ((binU f slow).g i m n fun z => k z h)) = some L := e
  obtain ⟨i, m, e1, e2⟩ := asInt_some e'
  obtain ⟨j, n, e3, e4⟩ := asInt_some e2
  obtain ⟨e5, e6⟩ := sameKind_some e4
  subst e5
  rw [binU_eq g] at e6
  rw [opd_f] at e1 e3
  refine ⟨_, e6, fun ρ a w ht => ⟨.int i (slow i m n), ?_, .int _ _⟩⟩
  have hx := ht.ev x; rw [e1] at hx
  have hy := ht.ev y; rw [e3] at hy
  exact does_bin ho hx.i_inv hy.i_inv (guard_int ..) (hr i m n w)
/-- What is said of symbols holds of what they stand for. -/
def SymOk (f : Int → Int → Bool) (s : FV → FV → Option Bool) : Prop := ∀ x y r, s x y = some r → ∀ ρ x' y', FVR ρ x x' → FVR ρ y y' → ∃ m n : Int, x' = .int .u64 m ∧ y' = .int .u64 n ∧ f m n = r
theorem symEq_ok : SymOk ieq symEq := by
  intro x y r e ρ x' y' hx hy
  unfold symEq at e
  split at e
  · rename_i n m
    cases hb : Nat.beq n m with
    | false => rw [hb] at e; cases e
    | true =>
      rw [hb] at e; cases e
      have := Nat.eq_of_beq_eq_true hb
      subst this
      rw [hx.o_inv.sym_inv, hy.o_inv.sym_inv]
      exact ⟨_, _, rfl, rfl, by rw [ieq_eq]; simp⟩
  · cases e
theorem symLt_ok : SymOk ilt symLt := by
  intro x y r e ρ x' y' hx hy
  unfold symLt at e
  split at e
  · rename_i n m
    cases hb : (Nat.beq (Nat.mod n 2) 1 && Nat.ble fieldP m) with
    | false => rw [hb] at e; cases e
    | true =>
      rw [hb] at e; cases e
      obtain ⟨h1, h2⟩ := (Bool.and_eq_true _ _).mp hb
      have h1 : n % 2 = 1 := Nat.eq_of_beq_eq_true h1
      have h2 : 2305843009213693951 ≤ m := Nat.le_of_ble_eq_true h2
      have h3 := Sym.odd n h1
      rw [hx.o_inv.sym_inv, hy.i_inv]
      refine ⟨_, _, rfl, rfl, ?_⟩
      rw [ilt_eq, decide_eq_true_eq]
      show ((Sym.val n : Nat) : Int) < ((m : Nat) : Int)
      omega
  · cases e
/-- .. of what is reckoned. -/
def SymFn (f : IntKind → Int → Int → Int) (s : FV → FV → Option FV) : Prop := ∀ x y v, s x y = some v → ∀ ρ x' y', FVR ρ x x' → FVR ρ y y' → ∃ m n : Int, x' = .int .u64 m ∧ y' = .int .u64 n ∧ n ≠ 0 ∧ FVR ρ v (.int .u64 (f .u64 m n))
theorem noSym_ok (f : IntKind → Int → Int → Int) : SymFn f noSym := fun _ _ _ e => by cases e
theorem symRem_ok : SymFn remF symRem := by
  intro x y v e ρ x' y' hx hy
  unfold symRem at e
  split at e
  · rename_i n m
    cases hb : (Nat.beq (Nat.mod n 2) 0 && Nat.beq m fieldP) with
    | false => rw [hb] at e; cases e
    | true =>
      rw [hb] at e; cases e
      obtain ⟨h1, h2⟩ := (Bool.and_eq_true _ _).mp hb
      have h1 : n % 2 = 0 := Nat.eq_of_beq_eq_true h1
      have h2 : m = 2305843009213693951 := Nat.eq_of_beq_eq_true h2
      subst h2
      rw [hx.o_inv.sym_inv, hy.i_inv]
      refine ⟨_, _, rfl, rfl, by decide, ?_⟩
      have h3 := Sym.rem n h1
      have h4 : remF .u64 ((Sym.val n : Nat) : Int) (.ofNat 2305843009213693951) = ((Sym.val (2 * 2 ^ (32 * n) + 1) : Nat) : Int) := by rw [h3]; rfl
      show VR ρ (.chan (some (2 * 2 ^ (32 * n) + 1))) (.int .u64 (remF .u64 ((Sym.val n : Nat) : Int) (.ofNat 2305843009213693951)))
      rw [h4]
      exact .sym _
  · cases e
theorem divide_pure {f : Nat → Nat → Nat → Nat} {slow : IntKind → Int → Int → Int} (g : Good f slow) {s : FV → FV → Option FV} (hs : SymFn slow s) {op : BinOp} {t yt : TypeId} {x y : Operand} (ho : o.op = .binOp op t x y yt)
    (hr : ∀ k m n w, n ≠ 0 → (Go.binOp op t (.int k m) (.int k n)).run P w = .ok (.int k (slow k m n)) w) : PureS P (divide (binU f slow) s (opd x) (opd y)).g o := by
  intro r tm h k L e
  have e' : asIntS ((opd x).f tm) (fun i m => asInt ((opd y).f tm) fun j n => sameKind i j (Bool.rec ((binU f slow).g i m n fun z => k z h) none (ieq n 0))) (match s ((opd x).f tm) ((opd y).f tm) with | some v => k v h | none => none) = some L := e
  rcases asIntS_some e' with ⟨i, m, e1, e2⟩ | e2
  case inr =>
    split at e2
    · rename_i v hv
      refine ⟨v, e2, fun ρ a w ht => ?_⟩
      rw [opd_f, opd_f] at hv
      obtain ⟨m, n, h1, h2, h3, h4⟩ := hs _ _ v hv ρ _ _ (ht.ev x) (ht.ev y)
      exact ⟨_, does_bin ho h1 h2 (guard_int ..) (hr .u64 m n w h3), h4⟩
    · cases e2
  obtain ⟨j, n, e3, e4⟩ := asInt_some e2
  obtain ⟨e5, e6⟩ := sameKind_some e4
  subst e5
  obtain ⟨e7, e6⟩ := rec_false e6
  rw [binU_eq g] at e6
  rw [opd_f] at e1 e3
  refine ⟨_, e6, fun ρ a w ht => ⟨.int i (slow i m n), ?_, .int _ _⟩⟩
  have hx := ht.ev x; rw [e1] at hx
  have hy := ht.ev y; rw [e3] at hy
  exact does_bin ho hx.i_inv hy.i_inv (guard_int ..) (hr i m n w (by rw [ieq_eq] at e7; simpa using e7))
theorem logic_pure {f : Int → Int → Bool} {s : FV → FV → Option Bool} (hs : SymOk f s) {op : BinOp} {t yt : TypeId} {x y : Operand} {yes no : FV} {vy vn : Bool} (hy : yes = .b vy) (hn : no = .b vn) (ho : o.op = .binOp op t x y yt)
    (hr : ∀ k m n w, (Go.binOp op t (.int k m) (.int k n)).run P w = .ok (.bool (bif f m n then vy else vn)) w) : PureS P (logic f s (opd x) (opd y) yes no).g o := by
  intro r tm h k L e
  have e' : asIntS ((opd x).f tm) (fun i m => asInt ((opd y).f tm) fun j n => sameKind i j (Bool.rec (k no h) (k yes h) (f m n))) (match s ((opd x).f tm) ((opd y).f tm) with | some r => Bool.rec (k no h) (k yes h) r | none => none) = some L := e
  rcases asIntS_some e' with ⟨i, m, e1, e2⟩ | e2
  case inr =>
    split at e2
    · rename_i v hv
      rw [opd_f, opd_f] at hv
      have key : ∀ ρ (a : Act) w, TR ρ tm a.tmps → Does P o a w (.bool (bif v then vy else vn)) w := fun ρ a w ht => by
        obtain ⟨m, n, h1, h2, h4⟩ := hs _ _ v hv ρ _ _ (ht.ev x) (ht.ev y)
        rw [← h4]
        exact does_bin ho h1 h2 (guard_int ..) (hr .u64 m n w)
      cases v with
      | true =>
        subst hy
        exact ⟨_, e2, fun ρ a w ht => ⟨_, key ρ a w ht, .bool _⟩⟩
      | false =>
        subst hn
        exact ⟨_, e2, fun ρ a w ht => ⟨_, key ρ a w ht, .bool _⟩⟩
    · cases e2
  obtain ⟨j, n, e3, e4⟩ := asInt_some e2
  obtain ⟨e5, e6⟩ := sameKind_some e4
  subst e5
  rw [opd_f] at e1 e3
  have key : ∀ ρ (a : Act) w, TR ρ tm a.tmps → Does P o a w (.bool (bif f m n then vy else vn)) w := fun ρ a w ht => by
    have hx := ht.ev x; rw [e1] at hx
    have hy := ht.ev y; rw [e3] at hy
    exact does_bin ho hx.i_inv hy.i_inv (guard_int ..) (hr i m n w)
  cases hf : f m n with
  | true =>
    rw [hf] at e6 key
    subst hy
    exact ⟨_, e6, fun ρ a w ht => ⟨_, key ρ a w ht, .bool _⟩⟩
  | false =>
    rw [hf] at e6 key
    subst hn
    exact ⟨_, e6, fun ρ a w ht => ⟨_, key ρ a w ht, .bool _⟩⟩
/-- The same with the operands turned about. -/
theorem logic_pure' {f : Int → Int → Bool} {s : FV → FV → Option Bool} (hs : SymOk f s) {op : BinOp} {t yt : TypeId} {x y : Operand} {yes no : FV} {vy vn : Bool} (hy : yes = .b vy) (hn : no = .b vn) (ho : o.op = .binOp op t x y yt)
    (hr : ∀ k m n w, (Go.binOp op t (.int k m) (.int k n)).run P w = .ok (.bool (bif f n m then vy else vn)) w) : PureS P (logic f s (opd y) (opd x) yes no).g o := by
  intro r tm h k L e
  have e' : asIntS ((opd y).f tm) (fun i m => asInt ((opd x).f tm) fun j n => sameKind i j (Bool.rec (k no h) (k yes h) (f m n))) (match s ((opd y).f tm) ((opd x).f tm) with | some r => Bool.rec (k no h) (k yes h) r | none => none) = some L := e
  rcases asIntS_some e' with ⟨i, m, e1, e2⟩ | e2
  case inr =>
    split at e2
    · rename_i v hv
      rw [opd_f, opd_f] at hv
      have key : ∀ ρ (a : Act) w, TR ρ tm a.tmps → Does P o a w (.bool (bif v then vy else vn)) w := fun ρ a w ht => by
        obtain ⟨m, n, h1, h2, h4⟩ := hs _ _ v hv ρ _ _ (ht.ev y) (ht.ev x)
        rw [← h4]
        exact does_bin ho h2 h1 (guard_int ..) (hr .u64 n m w)
      cases v with
      | true =>
        subst hy
        exact ⟨_, e2, fun ρ a w ht => ⟨_, key ρ a w ht, .bool _⟩⟩
      | false =>
        subst hn
        exact ⟨_, e2, fun ρ a w ht => ⟨_, key ρ a w ht, .bool _⟩⟩
    · cases e2
  obtain ⟨j, n, e3, e4⟩ := asInt_some e2
  obtain ⟨e5, e6⟩ := sameKind_some e4
  subst e5
  rw [opd_f] at e1 e3
  have key : ∀ ρ (a : Act) w, TR ρ tm a.tmps → Does P o a w (.bool (bif f m n then vy else vn)) w := fun ρ a w ht => by
    have hx := ht.ev x; rw [e3] at hx
    have hy := ht.ev y; rw [e1] at hy
    exact does_bin ho hx.i_inv hy.i_inv (guard_int ..) (hr i n m w)
  cases hf : f m n with
  | true =>
    rw [hf] at e6 key
    subst hy
    exact ⟨_, e6, fun ρ a w ht => ⟨_, key ρ a w ht, .bool _⟩⟩
  | false =>
    rw [hf] at e6 key
    subst hn
    exact ⟨_, e6, fun ρ a w ht => ⟨_, key ρ a w ht, .bool _⟩⟩
theorem shift_pure {f : IntKind → Int → Nat → Int} {op : BinOp} {t yt : TypeId} {x y : Operand} (ho : o.op = .binOp op t x y yt)
    (hr : ∀ k m j (n : Nat) w, (Go.binOp op t (.int k m) (.int j n)).run P w = .ok (.int k (f k m (min n (bitsN k)))) w) : PureS P (shift f (opd x) (opd y)).g o := by
  intro r tm h k L e
  have e' : asInt ((opd x).f tm) (fun i m => asInt ((opd y).f tm) fun _ n => Int.rec (fun n => retI i (f i m (Bool.rec (bitsN i) n (Nat.ble n (bitsN i)))) fun z => k z h) (fun _ => none) n) = some L := e
  obtain ⟨i, m, e1, e2⟩ := asInt_some e'
  obtain ⟨j, n, e3, e4⟩ := asInt_some e2
  rw [opd_f] at e1 e3
  cases n with
  | negSucc n => cases e4
  | ofNat n =>
    have e5 : retI i (f i m (Bool.rec (bitsN i) n (Nat.ble n (bitsN i)))) (fun z => k z h) = some L := e4
    rw [retI_eq] at e5
    have em : (Bool.rec (bitsN i) n (Nat.ble n (bitsN i)) : Nat) = min n (bitsN i) := by
      rw [ble_iff]
      by_cases c : n ≤ bitsN i
      · simp [c, Nat.min_eq_left c]
      · simp [c, Nat.min_eq_right (Nat.le_of_lt (Nat.lt_of_not_le c))]
    rw [em] at e5
    refine ⟨_, e5, fun ρ a w ht => ⟨.int i (f i m (min n (bitsN i))), ?_, .int _ _⟩⟩
    have hx := ht.ev x; rw [e1] at hx
    have hy := ht.ev y; rw [e3] at hy
    exact does_bin ho hx.i_inv hy.i_inv (guard_int ..) (hr i m j n w)
theorem bits_eq (k : IntKind) : k.bits = bitsN k := by cases k <;> rfl
theorem int_bin (op : BinOp) (t : TypeId) (k : IntKind) (m n : Int) (h1 : op ≠ .shl) (h2 : op ≠ .shr) : Go.binOp op t (.int k m) (.int k n) = (match op with
    | .add | .sub | .mul => Op.intArith op k m n
    | .quo | .rem => Op.intDiv op k m n
    | .and | .or | .xor | .andNot => Op.intBits op k m n
    | _ => Op.intCmp op m n) := by
  cases op <;> first | exact absurd rfl h1 | exact absurd rfl h2 | simp [Go.binOp]
theorem shl_run (k : IntKind) (m : Int) (j : IntKind) (n : Nat) (t : TypeId) (w : World) : (Go.binOp .shl t (.int k m) (.int j n)).run P w = .ok (.int k (shlF k m (min n (bitsN k)))) w := by
  have : Go.binOp .shl t (.int k m) (.int j n) = Op.shift .shl k m j n := rfl
  rw [this]
  unfold Op.shift shlF
  rw [if_neg (by omega), wrapI_eq, bits_eq]
  simp only [Int.toNat_natCast, Sem.run_pure]
  congr 2
theorem shr_run (k : IntKind) (m : Int) (j : IntKind) (n : Nat) (t : TypeId) (w : World) : (Go.binOp .shr t (.int k m) (.int j n)).run P w = .ok (.int k (shrF k m (min n (bitsN k)))) w := by
  have : Go.binOp .shr t (.int k m) (.int j n) = Op.shift .shr k m j n := rfl
  rw [this]
  unfold Op.shift
  rw [if_neg (by omega), bits_eq]
  simp only [Int.toNat_natCast, Sem.run_pure]
  congr 2
  generalize min n (bitsN k) = q
  have hp : ((2 : Int) ^ q) = ((2 ^ q : Nat) : Int) := by simp
  rw [hp]
  cases m with
  | ofNat m =>
    show Int.fdiv (m : Int) _ = ((m >>> q : Nat) : Int)
    rw [Nat.shiftRight_eq_div_pow]
    rw [Int.fdiv_eq_ediv_of_nonneg _ (Int.natCast_nonneg _)]
    rfl
  | negSucc m =>
    show Int.fdiv (Int.negSucc m) _ = Int.negSucc (m >>> q)
    rw [Nat.shiftRight_eq_div_pow]
    have hq : 0 < 2 ^ q := Nat.pow_pos (by decide)
    rw [Int.fdiv_eq_ediv_of_nonneg _ (Int.natCast_nonneg _)]
    rw [Int.negSucc_ediv m (Int.natCast_pos.mpr hq)]
    rfl
end
end Go.FX
namespace Go.FX
variable [Sym]

/-! ### Equality -/

/-- What is asked of a type of several cells: '==' and keys go by the cells. -/
structure EqOk (P : Program) (t : TypeId) (n : Nat) : Prop where
  guard : P.eqGuardType P.depth t = false
  eq : ∀ (xs ys : Array Value) (b : Bool) (w : World), xs.toList.length = n → eqR xs.toList ys.toList = some b → (Op.equal t (.agg xs) (.agg ys)).run P w = .ok b w
  key : ∀ (xs : Array Value) (e : Bool) (w : World), xs.toList.length = n → (eqR xs.toList xs.toList).isSome = true → (Instr.checkKey e 10000 t (.agg xs)).run P w = .ok () w
structure EqsOk (P : Program) (E : Env) : Prop where
  ok : ∀ t n, sizeIn t E.eqT = some n → EqOk P t n

theorem beqs_eq : ∀ (a b : List UInt8), beqs a b = (a == b)
  | [], [] => rfl
  | [], _ :: _ => rfl
  | _ :: _, [] => rfl
  | x :: xs, y :: ys => by
    have h : (x == y) = decide (x.toNat = y.toNat) := by
      rw [Bool.eq_iff_iff, beq_iff_eq, decide_eq_true_eq, UInt8.toNat_inj]
    show (Nat.beq x.toNat y.toNat && beqs xs ys) = _
    rw [beq_iff, beqs_eq xs ys, List.cons_beq_cons, h]
theorem eq1_VR {ρ : Rho} {a a' b b' : Value} {r : Bool} (h : eq1 a b = some r) (ha : VR ρ a a') (hb : VR ρ b b') : eq1 a' b' = some r := by
  unfold eq1 at h
  split at h
  · rw [ha.int_inv, hb.int_inv]; exact h
  · rw [ha.bool_inv, hb.bool_inv]; exact h
  · rw [ha.string_inv, hb.string_inv]; exact h
  · cases h
theorem eqInt_eq1 {a b : Value} {r : Bool} (h : eqInt a b = some r) : eq1 a b = some r := by
  unfold eqInt at h
  split at h
  · exact h
  · cases h
theorem eqIntS_VR {ρ : Rho} {a a' b b' : Value} {r : Bool} (h : eqIntS a b = some r) (ha : VR ρ a a') (hb : VR ρ b b') : eqInt a' b' = some r := by
  unfold eqIntS at h
  split at h
  · rw [ha.int_inv, hb.int_inv]; exact h
  · rename_i n m
    cases hc : Nat.beq n m with
    | false => rw [hc] at h; cases h
    | true =>
      rw [hc] at h; cases h
      have := Nat.eq_of_beq_eq_true hc
      subst this
      rw [ha.sym_inv, hb.sym_inv]
      show (bif Nat.beq (kno .u64) (kno .u64) then some (_ == _) else none) = _
      simp [kno]
  · cases h
theorem eqL_VR {ρ : Rho} : ∀ {xs ys xs' ys' : List Value} {r : Bool}, eqL xs ys = some r → VRs ρ xs xs' → VRs ρ ys ys' → eqR xs' ys' = some r
  | [], [], _, _, r, h, .nil, .nil => h
  | x :: xs, y :: ys, _, _, r, h, .cons hx hxs, .cons hy hys => by
    unfold eqL at h
    unfold eqR
    cases e1 : eqIntS x y with
    | none => simp only [e1] at h; cases h
    | some p =>
      cases e2 : eqL xs ys with
      | none => simp only [e1, e2] at h; cases h
      | some q =>
        simp only [e1, e2] at h
        rw [eqIntS_VR e1 hx hy, eqL_VR e2 hxs hys]
        exact h
theorem sh_eq (s t : ByteArray) : (s.toList == t.toList) = beqs s.data.toList t.data.toList := by
  rw [ByteArray.toList_eq, ByteArray.toList_eq, beqs_eq]

section
variable {P : Program} {t : TypeId} {d : TypeDesc} (hu : P.underlying t = some d) (w : World)
include hu
theorem eqIn_ptrNil (e : TypeId) (hd : d = .pointer e) (n : Nat) (z : Option Addr) : (Op.equalIn (n + 1) t (.pointer none) (.pointer z)).run P w = .ok z.isNone w := by
  subst hd
  simp only [Op.equalIn, Sem.run_bind, run_underlying hu, Result.andThen_ok]; rfl
theorem eqIn_ptr (e : TypeId) (hd : d = .pointer e) (n : Nat) (z : Addr) : (Op.equalIn (n + 1) t (.pointer (some z)) (.pointer none)).run P w = .ok false w := by
  subst hd
  simp only [Op.equalIn, Sem.run_bind, run_underlying hu, Result.andThen_ok]; rfl
theorem eqIn_slNil (e : TypeId) (hd : d = .slice e) (n a b x y : Nat) (z : Option Addr) : (Op.equalIn (n + 1) t (.slice none a b) (.slice z x y)).run P w = .ok z.isNone w := by
  subst hd
  simp only [Op.equalIn, Sem.run_bind, run_underlying hu, Result.andThen_ok]; rfl
theorem eqIn_sl (e : TypeId) (hd : d = .slice e) (n a b x y : Nat) (z : Addr) : (Op.equalIn (n + 1) t (.slice (some z) a b) (.slice none x y)).run P w = .ok false w := by
  subst hd
  simp only [Op.equalIn, Sem.run_bind, run_underlying hu, Result.andThen_ok]; rfl
theorem eqIn_ifNil (e : Array (String × TypeId)) (hd : d = .interface e) (n : Nat) : (Op.equalIn (n + 1) t .nilIface .nilIface).run P w = .ok true w := by
  subst hd
  simp only [Op.equalIn, Sem.run_bind, run_underlying hu, Result.andThen_ok]; rfl
theorem eqIn_if1 (e : Array (String × TypeId)) (hd : d = .interface e) (n : Nat) (s : TypeId) (v : Value) : (Op.equalIn (n + 1) t .nilIface (.iface s v)).run P w = .ok false w := by
  subst hd
  simp only [Op.equalIn, Sem.run_bind, run_underlying hu, Result.andThen_ok]; rfl
theorem eqIn_if2 (e : Array (String × TypeId)) (hd : d = .interface e) (n : Nat) (s : TypeId) (v : Value) : (Op.equalIn (n + 1) t (.iface s v) .nilIface).run P w = .ok false w := by
  subst hd
  simp only [Op.equalIn, Sem.run_bind, run_underlying hu, Result.andThen_ok]; rfl
theorem eqIn_bool (hd : d = .bool) (n : Nat) (x y : Bool) : (Op.equalIn (n + 1) t (.bool x) (.bool y)).run P w = .ok (x == y) w := by
  subst hd
  simp only [Op.equalIn, Sem.run_bind, run_underlying hu, Result.andThen_ok]; rfl
end
theorem eql_run {P : Program} {t : TypeId} {u v : Value} {r : Bool} {w : World} (h : (Op.equalIn (9999 + 1) t u v).run P w = .ok r w)
    (hb : Go.binOp .eql t u v = (do pure (.bool (← Op.equal t u v)))) : (Go.binOp .eql t u v).run P w = .ok (.bool r) w := by
  rw [hb]
  show ((Op.equalIn (9999 + 1) t u v) >>= fun b => pure (Value.bool b)).run P w = _
  rw [Sem.run_bind, h]; rfl
theorem neq_run {P : Program} {t : TypeId} {u v : Value} {r : Bool} {w : World} (h : (Op.equalIn (9999 + 1) t u v).run P w = .ok r w)
    (hb : Go.binOp .neq t u v = (do pure (.bool (!(← Op.equal t u v))))) : (Go.binOp .neq t u v).run P w = .ok (.bool (!r)) w := by
  rw [hb]
  show ((Op.equalIn (9999 + 1) t u v) >>= fun b => pure (Value.bool (!b))).run P w = _
  rw [Sem.run_bind, h]; rfl

section
variable {P : Program} {E : Env} {o : Oper} (ok : EnvOk P E) (qs : EqsOk P E)
include ok qs
theorem same_run {t : TypeId} {ci : Bool} {a b : FV} {c : Bool → R} {L : List (FV × Heap)} (h : same E t ci a b c = some L) :
    a ≠ .u ∧ b ≠ .u ∧ ∃ r, c r = some L ∧ ∀ ρ u v w, VR ρ (FV.v a) u → VR ρ (FV.v b) v →
      (∀ x y, ci = (isConst x || isConst y) → (eqGuard .eql t x y u v).run P w = .ok () w ∧ (eqGuard .neq t x y u v).run P w = .ok () w) ∧
      (Go.binOp .eql t u v).run P w = .ok (.bool r) w ∧ (Go.binOp .neq t u v).run P w = .ok (.bool (!r)) w := by
  unfold same at h
  obtain ⟨ha, h⟩ := known_some h
  obtain ⟨hb, h⟩ := known_some h
  refine ⟨ha, hb, ?_⟩
  split at h
  · rename_i e hu
    split at h
    · rename_i y e1 e2
      refine ⟨_, h, fun ρ u v w h1 h2 => ?_⟩
      rw [e1] at h1; rw [e2] at h2
      cases h1
      have hv : ∃ z, v = .pointer z ∧ z.isNone = y.isNone := by cases h2 <;> exact ⟨_, rfl, rfl⟩
      obtain ⟨z, rfl, hz⟩ := hv
      have q := eqIn_ptrNil (und_ok ok hu) w e rfl 9999 z
      rw [hz] at q
      exact ⟨fun x y _ => ⟨rfl, rfl⟩, eql_run q rfl, neq_run q rfl⟩
    · rename_i p e1 e2
      refine ⟨_, h, fun ρ u v w h1 h2 => ?_⟩
      rw [e1] at h1; rw [e2] at h2
      cases h1; cases h2
      have q := fun z => eqIn_ptr (und_ok ok hu) w e rfl 9999 z
      exact ⟨fun x y _ => ⟨rfl, rfl⟩, eql_run (q _) rfl, neq_run (q _) rfl⟩
    · cases h
  · rename_i e hu
    split at h
    · rename_i y m c' e1 e2
      refine ⟨_, h, fun ρ u v w h1 h2 => ?_⟩
      rw [e1] at h1; rw [e2] at h2
      cases h1
      have hv : ∃ z n c, v = .slice z n c ∧ z.isNone = y.isNone := by cases h2 <;> exact ⟨_, _, _, rfl, rfl⟩
      obtain ⟨z, n, c, rfl, hz⟩ := hv
      have q := eqIn_slNil (und_ok ok hu) w e rfl 9999 0 0 n c z
      rw [hz] at q
      exact ⟨fun x y _ => ⟨rfl, rfl⟩, eql_run q rfl, neq_run q rfl⟩
    · rename_i p _ _ _ _ e1 e2
      refine ⟨_, h, fun ρ u v w h1 h2 => ?_⟩
      rw [e1] at h1; rw [e2] at h2
      cases h1; cases h2
      have q := fun a b x y z => eqIn_sl (und_ok ok hu) w e rfl 9999 a b x y z
      exact ⟨fun x y _ => ⟨rfl, rfl⟩, eql_run (q _ _ _ _ _) rfl, neq_run (q _ _ _ _ _) rfl⟩
    · cases h
  · rename_i e hu
    split at h
    · rename_i e1 e2
      cases ci with
      | false => cases h
      | true =>
        refine ⟨true, h, fun ρ u v w h1 h2 => ?_⟩
        rw [e1] at h1; rw [e2] at h2
        cases h1; cases h2
        refine ⟨fun x y hc => ?_, ?_, ?_⟩
        · have : (match x with | .const _ => true | _ => false) = true ∨ (match y with | .const _ => true | _ => false) = true := by
            cases x <;> cases y <;> simp [isConst] at hc ⊢
          constructor <;> (unfold eqGuard; rcases this with g | g <;> (cases x <;> cases y <;> first | rfl | (simp at g)))
        · exact eql_run (eqIn_ifNil (und_ok ok hu) w e rfl 9999) rfl
        · exact neq_run (eqIn_ifNil (und_ok ok hu) w e rfl 9999) rfl
    · rename_i e1 e2
      refine ⟨_, h, fun ρ u v w h1 h2 => ?_⟩
      rw [e1] at h1; rw [e2] at h2
      cases h1; cases h2
      exact ⟨fun x y _ => ⟨rfl, rfl⟩, eql_run (eqIn_if1 (und_ok ok hu) w e rfl 9999 _ _) rfl, neq_run (eqIn_if1 (und_ok ok hu) w e rfl 9999 _ _) rfl⟩
    · rename_i e1 e2
      refine ⟨_, h, fun ρ u v w h1 h2 => ?_⟩
      rw [e1] at h1; rw [e2] at h2
      cases h1; cases h2
      exact ⟨fun x y _ => ⟨rfl, rfl⟩, eql_run (eqIn_if2 (und_ok ok hu) w e rfl 9999 _ _) rfl, neq_run (eqIn_if2 (und_ok ok hu) w e rfl 9999 _ _) rfl⟩
    · cases h
  · rename_i hu
    split at h
    · rename_i x y e1 e2
      refine ⟨_, h, fun ρ u v w h1 h2 => ?_⟩
      rw [e1] at h1; rw [e2] at h2
      cases h1; cases h2
      exact ⟨fun x y _ => ⟨rfl, rfl⟩, eql_run (eqIn_bool (und_ok ok hu) w rfl 9999 _ _) rfl, neq_run (eqIn_bool (und_ok ok hu) w rfl 9999 _ _) rfl⟩
    · cases h
  · rename_i hu
    split at h
    · rename_i x y e1 e2
      refine ⟨_, h, fun ρ u v w h1 h2 => ?_⟩
      rw [e1] at h1; rw [e2] at h2
      cases h1; cases h2
      refine ⟨fun x y _ => ⟨rfl, rfl⟩, ?_, ?_⟩ <;> simp [Go.binOp, Op.stringOp, sh_eq]
    · cases h
  · rename_i d _ _ _ _ _ hu
    cases hs : sizeIn t E.eqT with
    | none => simp only [hs] at h; cases h
    | some n =>
      simp only [hs] at h
      have q := qs.ok t n hs
      unfold eqAgg at h
      cases hA : FV.v a with
      | agg xs =>
        cases hB : FV.v b with
        | agg ys =>
          simp only [hA, hB] at h
          cases hl : Nat.beq xs.toList.length n with
          | false => rw [hl] at h; simp at h
          | true =>
            rw [hl] at h
            simp only [cond_true] at h
            have hl' := Nat.eq_of_beq_eq_true hl
            cases hq : eqL xs.toList ys.toList with
            | none => simp only [hq] at h; cases h
            | some r =>
              simp only [hq] at h
              refine ⟨r, h, fun ρ u v w h1 h2 => ?_⟩
              obtain ⟨xs', rfl, g1⟩ := h1.agg_inv
              obtain ⟨ys', rfl, g2⟩ := h2.agg_inv
              have hr := q.eq xs' ys' r w (by rw [← g1.length]; exact hl') (eqL_VR hq g1 g2)
              have hg : ∀ op x y, (eqGuard op t x y (.agg xs') (.agg ys')).run P w = .ok () w := fun op x y => by
                unfold eqGuard
                cases op <;> first | rfl | simp [program, Sem.run, q.guard]
              refine ⟨fun x y _ => ⟨hg _ x y, hg _ x y⟩, ?_, ?_⟩ <;> simp [Go.binOp, hr]
        | _ => simp only [hA, hB] at h; simp at h
      | _ => simp only [hA] at h; simp at h
  · cases h
end
end Go.FX
namespace Go.FX
variable [Sym]
section
variable {P : Program} {E : Env} {o : Oper} (ok : EnvOk P E) (qs : EqsOk P E)
theorem isNat_nonneg (n : Nat) : (0 : Int) ≤ n := Int.natCast_nonneg n

include ok qs in
theorem equal_pure {op : BinOp} {t yt : TypeId} {x y : Operand} {yes no : FV} {f : Bool → Bool} (hy : yes = .b (f true)) (hn : no = .b (f false)) (ho : o.op = .binOp op t x y yt)
    (hop : (op = .eql ∧ f = id) ∨ (op = .neq ∧ f = not)) : PureS P (equal E t x y yes no).g o := by
  intro r tm h k L e
  have e' : same E t (isConst x || isConst y) ((opd x).f tm) ((opd y).f tm) (fun r => Bool.rec (k no h) (k yes h) r) = some L := e
  obtain ⟨ha, hb, r, hc, hr⟩ := same_run ok qs e'
  have key : ∀ ρ (a : Act) w, TR ρ tm a.tmps → Does P o a w (.bool (f r)) w := fun ρ a w ht => by
    have hx := ht.ev x; have hy := ht.ev y
    rw [opd_f] at ha hb
    obtain ⟨g1, g2, g3⟩ := hr ρ _ _ w (by rw [opd_f]; exact hx.known_inv ha) (by rw [opd_f]; exact hy.known_inv hb)
    rcases hop with ⟨rfl, rfl⟩ | ⟨rfl, rfl⟩
    · exact does_bin ho rfl rfl (g1 x y rfl).1 g2
    · exact does_bin ho rfl rfl (g1 x y rfl).2 g3
  cases r with
  | true => subst hy; exact ⟨_, hc, fun ρ a w ht => ⟨_, key ρ a w ht, .bool _⟩⟩
  | false => subst hn; exact ⟨_, hc, fun ρ a w ht => ⟨_, key ρ a w ht, .bool _⟩⟩
theorem guard_str (op : BinOp) (t : TypeId) (x y : Operand) (m n : ByteArray) (w : World) : (eqGuard op t x y (.string m) (.string n)).run P w = .ok () w := by
  unfold eqGuard
  cases op <;> rfl
theorem append_bytes (s t : ByteArray) : (s ++ t) = ⟨⟨s.data.toList ++ t.data.toList⟩⟩ := by
  apply ByteArray.ext
  simp
theorem strAdd_pure {t yt : TypeId} {x y : Operand} (ho : o.op = .binOp .add t x y yt) : PureS P (strAdd (opd x) (opd y)).g o := by
  intro r tm h k L e
  have e' : asO ((opd x).f tm) (fun v => asO ((opd y).f tm) fun w => match v, w with
    | .string s, .string t => Bool.rec none (k (.o (.string ⟨⟨s.data.toList ++ t.data.toList⟩⟩)) h) (Nat.ble (s.data.toList.length + t.data.toList.length) 1000000)
    | _, _ => none) = some L := e
  obtain ⟨u, e1, e2⟩ := asO_some e'
  obtain ⟨v, e3, e4⟩ := asO_some e2
  rw [opd_f] at e1 e3
  split at e4
  · rename_i s q
    obtain ⟨e5, e6⟩ := rec_true e4
    refine ⟨_, e6, fun ρ a w ht => ⟨.string ⟨⟨s.data.toList ++ q.data.toList⟩⟩, ?_, .string _⟩⟩
    have hx := ht.ev x; rw [e1] at hx
    have hy := ht.ev y; rw [e3] at hy
    refine does_bin ho hx.o_inv.string_inv hy.o_inv.string_inv (guard_str ..) ?_
    have hb : Go.binOp .add t (.string s) (.string q) = Op.stringOp .add s q := rfl
    rw [hb]
    unfold Op.stringOp
    simp only []
    have hle := Nat.le_of_ble_eq_true e5
    have hs : s.size = s.data.toList.length := rfl
    have hq : q.size = q.data.toList.length := rfl
    rw [if_neg (by simp only [IntKind.max, IntKind.bits, IntKind.signed]; rw [hs, hq]; omega)]
    rw [append_bytes]
    rfl
  · cases e4

include ok qs in
theorem binOp_pure {op : BinOp} {t yt : TypeId} {x y : Operand} (ho : o.op = .binOp op t x y yt) : PureS P (binOp E op t x y).g o := by
  cases op with
  | add =>
    show PureS P (bif isStr (E.und t) then strAdd (opd x) (opd y) else arith (binU (fun M a b => Nat.mod (Nat.add a b) M) addF) (opd x) (opd y)).g o
    cases isStr (E.und t) with
    | true => exact strAdd_pure ho
    | false => exact arith_pure good_add ho fun k m n w => by rw [int_bin _ _ _ _ _ (by simp) (by simp)]; simp [Op.intArith, addF, wrapI_eq]; try rfl
  | sub => exact arith_pure good_sub ho fun k m n w => by rw [int_bin _ _ _ _ _ (by simp) (by simp)]; simp [Op.intArith, subF, wrapI_eq]; try rfl
  | mul => exact arith_pure good_mul ho fun k m n w => by rw [int_bin _ _ _ _ _ (by simp) (by simp)]; simp [Op.intArith, mulF, wrapI_eq]; try rfl
  | quo => exact divide_pure good_quo (noSym_ok _) ho fun k m n w hn => by rw [int_bin _ _ _ _ _ (by simp) (by simp)]; simp [Op.intDiv, hn, quoF, wrapI_eq]
  | rem => exact divide_pure good_rem symRem_ok ho fun k m n w hn => by rw [int_bin _ _ _ _ _ (by simp) (by simp)]; simp [Op.intDiv, hn, remF]
  | and => exact arith_pure good_and ho fun k m n w => by rw [int_bin _ _ _ _ _ (by simp) (by simp), and_eq]; rfl
  | or => exact arith_pure good_or ho fun k m n w => by rw [int_bin _ _ _ _ _ (by simp) (by simp), or_eq]; rfl
  | xor => exact arith_pure good_xor ho fun k m n w => by rw [int_bin _ _ _ _ _ (by simp) (by simp), xor_eq]; rfl
  | andNot => exact arith_pure good_andNot ho fun k m n w => by rw [int_bin _ _ _ _ _ (by simp) (by simp), andNot_eq]; rfl
  | shl => exact shift_pure ho fun k m j n w => shl_run k m j n t w
  | shr => exact shift_pure ho fun k m j n w => shr_run k m j n t w
  | eql =>
    show PureS P (bif isInt (E.und t) then logic ieq symEq (opd x) (opd y) (.b true) (.b false) else equal E t x y (.b true) (.b false)).g o
    cases isInt (E.und t) with
    | true => exact logic_pure symEq_ok rfl rfl ho fun k m n w => by rw [int_bin _ _ _ _ _ (by simp) (by simp), ieq_eq]; cases h : m == n <;> simp [Op.intCmp, h]
    | false => exact equal_pure ok qs (f := id) rfl rfl ho (.inl ⟨rfl, rfl⟩)
  | neq =>
    show PureS P (bif isInt (E.und t) then logic ieq symEq (opd x) (opd y) (.b false) (.b true) else equal E t x y (.b false) (.b true)).g o
    cases isInt (E.und t) with
    | true => exact logic_pure symEq_ok rfl rfl ho fun k m n w => by rw [int_bin _ _ _ _ _ (by simp) (by simp), ieq_eq]; cases h : m == n <;> simp [Op.intCmp, h, bne]
    | false => exact equal_pure ok qs (f := not) rfl rfl ho (.inr ⟨rfl, rfl⟩)
  | lss => exact logic_pure symLt_ok rfl rfl ho fun k m n w => by rw [int_bin _ _ _ _ _ (by simp) (by simp), ilt_eq]; by_cases h : m < n <;> simp [Op.intCmp, h]
  | gtr => exact logic_pure' symLt_ok rfl rfl ho fun k m n w => by rw [int_bin _ _ _ _ _ (by simp) (by simp), ilt_eq]; by_cases h : n < m <;> simp [Op.intCmp, h]
  | leq =>
      refine logic_pure' symLt_ok rfl rfl ho fun k m n w => ?_
      rw [int_bin _ _ _ _ _ (by simp) (by simp), ilt_eq]
      by_cases h : n < m
      · simp [Op.intCmp, h]
      · simp [Op.intCmp, h]; omega
  | geq =>
      refine logic_pure symLt_ok rfl rfl ho fun k m n w => ?_
      rw [int_bin _ _ _ _ _ (by simp) (by simp), ilt_eq]
      by_cases h : m < n
      · simp [Op.intCmp, h]
      · simp [Op.intCmp, h]; omega
end
end Go.FX
namespace Go.FX
variable [Sym]
section
variable {P : Program} {E : Env} {o : Oper} (ok : EnvOk P E) (qs : EqsOk P E)

theorem does_v {a : Act} {w w' : World} {v : Value} {s : Sem Value} (h : execOp a.eval o = (do pure (Next.value (← s)))) (hr : s.run P w = .ok v w') : Does P o a w v w' := .inl (by rw [h]; exact run_v hr)

theorem unOp_pure {op : UnOp} {t : TypeId} {x : Operand} (ho : o.op = .unOp op t x) : PureS P (unOp op (opd x)).g o := by
  cases op with
  | plus => exact noOp_pure P o
  | neg =>
    intro r tm h k L e
    have e' : asInt ((opd x).f tm) (fun i n => retI i (subF i 0 n) fun z => k z h) = some L := e
    obtain ⟨i, n, e1, e2⟩ := asInt_some e'
    rw [retI_eq] at e2; rw [opd_f] at e1
    refine ⟨_, e2, fun ρ a w ht => ⟨.int i (subF i 0 n), ?_, .int _ _⟩⟩
    have hx := ht.ev x; rw [e1] at hx
    refine does_v (s := Op.unary .neg (.int i n)) (by unfold execOp; rw [ho]; simp only [hx.i_inv]) ?_
    have hn : Int.sub 0 n = 0 - n := rfl
    simp only [Op.unary, Op.intArith, subF, wrapI_eq, hn]; rfl
  | not =>
    intro r tm h k L e
    have e' : asBool ((opd x).f tm) (fun t => Bool.rec (k (.b true) h) (k (.b false) h) t) = some L := e
    obtain ⟨b, e1, e2⟩ := asBool_some e'
    rw [opd_f] at e1
    have key : ∀ ρ (a : Act) w, TR ρ tm a.tmps → Does P o a w (.bool (!b)) w := fun ρ a w ht => by
      have hx := ht.ev x; rw [e1] at hx
      exact does_v (s := Op.unary .not (.bool b)) (by unfold execOp; rw [ho]; simp only [hx.b_inv]) rfl
    cases b with
    | true => exact ⟨_, e2, fun ρ a w ht => ⟨_, key ρ a w ht, .bool _⟩⟩
    | false => exact ⟨_, e2, fun ρ a w ht => ⟨_, key ρ a w ht, .bool _⟩⟩
  | xor =>
    intro r tm h k L e
    have e' : asInt ((opd x).f tm) (fun i n => retI i (xorF i (onesOf i) n) fun z => k z h) = some L := e
    obtain ⟨i, n, e1, e2⟩ := asInt_some e'
    rw [retI_eq] at e2; rw [opd_f] at e1
    refine ⟨_, e2, fun ρ a w ht => ⟨_, ?_, .int _ _⟩⟩
    have hx := ht.ev x; rw [e1] at hx
    refine does_v (s := Op.unary .xor (.int i n)) (by unfold execOp; rw [ho]; simp only [hx.i_inv]) ?_
    have hc : ∀ i : IntKind, onesOf i = (if i.signed then -1 else i.max) := by intro i; cases i <;> decide
    rw [hc, xor_eq]
    rfl

include ok in
theorem conv_int_pure {s d : TypeId} {x : Operand} {i : IntKind} {ds : TypeDesc} (hs : E.und s = some ds) (hd : E.und d = some (.int i)) (ho : o.op = .convert s d x) :
    PureS P (fun _ tm h k => asInt ((opd x).f tm) fun _ n => retI i (wrapI i n) fun z => k z h) o := by
  intro r tm h k L e
  obtain ⟨j, n, e1, e2⟩ := asInt_some e
  rw [retI_eq] at e2; rw [opd_f] at e1
  refine ⟨_, e2, fun ρ a w ht => ⟨_, ?_, .int _ _⟩⟩
  have hx := ht.ev x; rw [e1] at hx
  refine does_v (s := Go.convert s d (.int j n)) (by unfold execOp; rw [ho]; simp only [hx.i_inv]) ?_
  unfold Go.convert
  simp only [Sem.run_bind, run_und ok hs, run_und ok hd, Result.andThen_ok]
  rw [wrapI_eq]
  cases ds <;> rfl
include ok in
theorem conv_str_pure {s d : TypeId} {x : Operand} {ds : TypeDesc} (hs : E.und s = some ds) (hd : E.und d = some .string) (ho : o.op = .convert s d x) :
    PureS P (fun _ tm h k => asO ((opd x).f tm) fun v => match v with | .string s => k (.o (.string s)) h | _ => none) o := by
  intro r tm h k L e
  obtain ⟨v, e1, e2⟩ := asO_some e
  rw [opd_f] at e1
  split at e2
  · rename_i b
    refine ⟨_, e2, fun ρ a w ht => ⟨_, ?_, VR.string b⟩⟩
    have hx := ht.ev x; rw [e1] at hx
    refine does_v (s := Go.convert s d (.string b)) (by unfold execOp; rw [ho]; simp only [hx.o_inv.string_inv]) ?_
    unfold Go.convert
    simp only [Sem.run_bind, run_und ok hs, run_und ok hd, Result.andThen_ok]
    cases ds <;> rfl
  · cases e2
theorem nil_pure {x : Operand} (ho : o.op = .nilCheck x) : PureS P (fun _ tm h k => known ((opd x).f tm) fun v => match FV.v v with
    | .pointer (some _) => k v h
    | .iface _ _ => k v h
    | .func (.func _) _ _ => k v h
    | _ => none) o := by
  intro r tm h k L e
  obtain ⟨e1, e2⟩ := known_some e
  rw [opd_f] at e1 e2
  split at e2
  · rename_i p hv
    refine ⟨_, e2, fun ρ a w ht => ?_⟩
    have hx := ht.ev x
    have hq := hx.known_inv e1
    rw [hv] at hq
    refine ⟨a.eval x, .inl ?_, hx⟩
    unfold execOp; rw [ho]
    cases hq' : a.eval x <;> rw [hq'] at hq <;> cases hq
    simp only [hq']; rfl
  · rename_i t u hv
    refine ⟨_, e2, fun ρ a w ht => ?_⟩
    have hx := ht.ev x
    have hq := hx.known_inv e1
    rw [hv] at hq
    refine ⟨a.eval x, .inl ?_, hx⟩
    unfold execOp; rw [ho]
    cases hq' : a.eval x <;> rw [hq'] at hq <;> cases hq
    simp only [hq']; rfl
  · rename_i f u v hv
    refine ⟨_, e2, fun ρ a w ht => ?_⟩
    have hx := ht.ev x
    have hq := hx.known_inv e1
    rw [hv] at hq
    refine ⟨a.eval x, .inl ?_, hx⟩
    unfold execOp; rw [ho]
    cases hq' : a.eval x <;> rw [hq'] at hq <;> cases hq
    rename_i hf _ _
    simp only [FnR] at hf
    subst hf
    simp only [hq']; rfl
  · cases e2

/-! Cells of a value. -/

theorem nth_some {vs : List Value} {i : Nat} {c : Value → R} {L : List (FV × Heap)} (h : nth vs i c = some L) : ∃ v, vs[i]? = some v ∧ c v = some L := by
  induction vs generalizing i with
  | nil => cases i <;> cases h
  | cons x xs ih =>
    cases i with
    | zero => exact ⟨x, rfl, h⟩
    | succ i => obtain ⟨v, a, b⟩ := ih (i := i) h; exact ⟨v, by simpa using a, b⟩
theorem dropN_eq (vs : List Value) (i : Nat) : dropN vs i = vs.drop i := by
  induction vs generalizing i with
  | nil => cases i <;> rfl
  | cons x xs ih =>
    cases i with
    | zero => rfl
    | succ i => exact ih i
theorem takeN_some : ∀ {n : Nat} {vs : List Value} {c : List Value → R} {L : List (FV × Heap)}, takeN n vs c = some L → n ≤ vs.length ∧ c (vs.take n) = some L
  | 0, vs, c, L, h => ⟨Nat.zero_le _, h⟩
  | n + 1, [], c, L, h => by cases h
  | n + 1, x :: xs, c, L, h => by
    have h' : takeN n xs (fun l => c (x :: l)) = some L := h
    obtain ⟨a, b⟩ := takeN_some h'
    exact ⟨by simpa using a, by simpa using b⟩
theorem VRs.take {ρ : Rho} : ∀ {xs ys : List Value} (n : Nat), VRs ρ xs ys → VRs ρ (xs.take n) (ys.take n)
  | _, _, 0, _ => .nil
  | _, _, _ + 1, .nil => .nil
  | _, _, n + 1, .cons a b => .cons a (VRs.take n b)
theorem VRs.drop {ρ : Rho} : ∀ {xs ys : List Value} (n : Nat), VRs ρ xs ys → VRs ρ (xs.drop n) (ys.drop n)
  | _, _, 0, h => h
  | _, _, _ + 1, .nil => .nil
  | _, _, n + 1, .cons _ b => VRs.drop n b
theorem extract_list (a : Array Value) (i n : Nat) : a.extract i (i + n) = ⟨(a.toList.drop i).take n⟩ := by
  apply Array.ext'
  rw [Array.toList_extract, List.extract_eq_take_drop]
  simp
include ok in
theorem partOf_some {t : TypeId} {cs : List Value} {off : Nat} {c : FV → R} {L : List (FV × Heap)} (h : partOf E t cs off c = some L) :
    ∃ v, c v = some L ∧ ∀ ρ (cs' : Array Value) w, VRs ρ cs cs'.toList → ∃ v', (part t cs' off).run P w = .ok v' w ∧ FVR ρ v v' := by
  unfold partOf at h
  cases hu : E.und t with
  | none => simp only [hu] at h; cases h
  | some d =>
    cases hs : E.size t with
    | none => simp only [hu, hs] at h; cases h
    | some n =>
      simp only [hu, hs] at h
      cases hA : isAggD d with
      | true =>
        rw [hA] at h
        obtain ⟨h1, h2⟩ := takeN_some (c := fun l => c (.o (.agg ⟨l⟩))) h
        refine ⟨_, h2, fun ρ cs' w hr => ⟨.agg (cs'.extract off (off + n)), ?_, ?_⟩⟩
        · unfold part
          simp only [Sem.run_bind, run_agg ok hu, hA, Result.andThen_ok, if_true, run_size ok hs]
          rfl
        · rw [dropN_eq]
          rw [extract_list]
          exact VR.agg ((hr.drop off).take n)
      | false =>
        rw [hA] at h
        obtain ⟨v, h1, h2⟩ := nth_some (c := fun v => c (ofV v)) h
        refine ⟨_, h2, fun ρ cs' w hr => ?_⟩
        obtain ⟨v', g1, g2⟩ := hr.get off v h1
        refine ⟨v', ?_, .ofV g2⟩
        unfold part
        simp only [Sem.run_bind, run_agg ok hu, hA, Result.andThen_ok]
        have : cs'[off]? = some v' := by rw [← Array.getElem?_toList]; exact g1
        simp [this]
theorem extract_pure {x : Operand} {i : Nat} (ho : o.op = .extract x i) :
    PureS P (fun _ tm h k => asO ((opd x).f tm) fun v => match v with | .tuple vs => nth vs.toList i fun v => k (ofV v) h | _ => none) o := by
  intro r tm h k L e
  obtain ⟨v, e1, e2⟩ := asO_some e
  rw [opd_f] at e1
  split at e2
  · rename_i vs
    obtain ⟨v, e3, e4⟩ := nth_some e2
    refine ⟨_, e4, fun ρ a w ht => ?_⟩
    have hx := ht.ev x; rw [e1] at hx
    obtain ⟨ys, g1, g2⟩ := hx.o_inv.tuple_inv
    obtain ⟨v', g3, g4⟩ := g2.get i v e3
    refine ⟨v', does_v (s := Instr.extract (.tuple ys) i) (by unfold execOp; rw [ho]; simp only [g1]) ?_, .ofV g4⟩
    have : ys[i]? = some v' := by rw [← Array.getElem?_toList]; exact g3
    simp [Instr.extract, this]
  · cases e2
include ok in
theorem field_pure {t : TypeId} {x : Operand} {i : Nat} (ho : o.op = .field t x i) : PureS P (fieldOp E t (opd x) i).g o := by
  show PureS P (match E.und t with
    | some (.struct fs) => (match fs.toList[i]? with
      | some f => (⟨fun _ tm h k => asO ((opd x).f tm) fun v => match v with | .agg cs => partOf E f.type cs.toList f.offset fun v => k v h | _ => none⟩ : COp)
      | none => noOp)
    | _ => noOp).g o
  split
  · rename_i fs hu
    split
    · rename_i f hf
      intro r tm h k L e
      obtain ⟨v, e1, e2⟩ := asO_some e
      rw [opd_f] at e1
      split at e2
      · rename_i cs
        obtain ⟨v, e3, e4⟩ := partOf_some ok e2
        refine ⟨_, e3, fun ρ a w ht => ?_⟩
        have hx := ht.ev x; rw [e1] at hx
        obtain ⟨ys, g1, g2⟩ := hx.o_inv.agg_inv
        obtain ⟨v', g3, g4⟩ := e4 ρ ys w g2
        refine ⟨v', does_v (s := Instr.field t (.agg ys) i) (by unfold execOp; rw [ho]; simp only [g1]) ?_, g4⟩
        unfold Instr.field
        have hf' : fs[i]? = some f := by rw [← Array.getElem?_toList]; exact hf
        simp only [Sem.run_bind, run_und ok hu, Result.andThen_ok, hf', asAgg, Sem.run_pure, g3]
      · cases e2
    · exact noOp_pure P o
  · exact noOp_pure P o
end
end Go.FX
namespace Go.FX
variable [Sym]
theorem AR.add {ρ : Rho} {k o : Nat} {a' : Addr} (h : AR ρ ⟨k, o, none⟩ a') (n : Nat) : AR ρ ⟨k, o + n, none⟩ (a'.add n) := by
  unfold AR at *
  cases e : ρ k with
  | fresh => simp only [e] at h
  | dead => trivial
  | «at» b s i =>
    simp only [e] at h ⊢
    refine ⟨trivial, ?_⟩
    rw [h.2]
    unfold Addr.add
    split
    · rename_i hn; subst hn; rfl
    · show (⟨b, o + s + n, none⟩ : Addr) = ⟨b, o + n + s, none⟩
      congr 1; omega
section
variable {P : Program} {E : Env} {o : Oper} (ok : EnvOk P E) (qs : EqsOk P E)
include ok in
theorem fieldAddr_pure {t : TypeId} {x : Operand} {i : Nat} (ho : o.op = .fieldAddr t x i) : PureS P (fieldAddr E t (opd x) i).g o := by
  show PureS P (match E.und t with
    | some (.struct fs) => (match fs.toList[i]? with
      | some f => (match E.size f.type with
        | some z => bif Nat.beq z 0 then noOp else (⟨fun _ tm h k => asPtr ((opd x).f tm) fun b o => k (.p b (Nat.add o f.offset)) h⟩ : COp)
        | none => noOp)
      | none => noOp)
    | _ => noOp).g o
  split
  · rename_i fs hu
    split
    · rename_i f hf
      split
      · rename_i z hz
        cases hb : Nat.beq z 0 with
        | true => exact noOp_pure P o
        | false =>
          intro r tm h k L e
          obtain ⟨b, q, e1, e2⟩ := asPtr_some e
          rw [opd_f] at e1
          refine ⟨_, e2, fun ρ a w ht => ?_⟩
          have hx := ht.ev x; rw [e1] at hx
          obtain ⟨a', g1, g2⟩ := hx.p_inv
          refine ⟨.pointer (some (a'.add f.offset)), does_v (s := Instr.fieldAt t (.pointer (some a')) i) (by unfold execOp; rw [ho]; simp only [g1]) ?_, .of (.ptr (g2.add _))⟩
          unfold Instr.fieldAt
          have hf' : fs[i]? = some f := by rw [← Array.getElem?_toList]; exact hf
          have hz' : z ≠ 0 := by rw [beq_iff] at hb; simpa using hb
          simp only [Sem.run_bind, run_und ok hu, Result.andThen_ok, hf', Instr.sureAddr, Sem.run_pure, fieldPlace, run_size ok hz, Sem.run_ite, if_neg hz']
      · exact noOp_pure P o
    · exact noOp_pure P o
  · exact noOp_pure P o
include ok in
theorem indexAddr_pure {t : TypeId} {x i : Operand} (ho : o.op = .indexAddr t x i) : PureS P (indexAddr E t (opd x) (opd i)).g o := by
  show PureS P (match E.und t with
    | some (.array n e) => (match E.size e with
      | some z => (⟨fun _ tm h k => asPtr ((opd x).f tm) fun b o => asNat ((opd i).f tm) fun j => Bool.rec none (k (.p b (Nat.add o (Nat.mul j z))) h) (Nat.blt j n)⟩ : COp)
      | none => noOp)
    | some (.slice e) => (match E.size e with
      | some z => ⟨fun _ tm h k => asSlice ((opd x).f tm) fun b o n _ => asNat ((opd i).f tm) fun j => Bool.rec none (k (.p b (Nat.add o (Nat.mul j z))) h) (Nat.blt j n)⟩
      | none => noOp)
    | _ => noOp).g o
  split
  · rename_i n e hu
    split
    · rename_i z hz
      intro r tm h k L e
      obtain ⟨b, q, e1, e2⟩ := asPtr_some e
      obtain ⟨kk, j, e3, e4⟩ := asNat_some e2
      obtain ⟨e5, e6⟩ := rec_true e4
      rw [opd_f] at e1 e3
      refine ⟨_, e6, fun ρ a w ht => ?_⟩
      have hx := ht.ev x; rw [e1] at hx
      have hi := ht.ev i; rw [e3] at hi
      obtain ⟨a', g1, g2⟩ := hx.p_inv
      refine ⟨.pointer (some (a'.add (j * z))), does_v (s := Instr.indexAt t (.pointer (some a')) (.int kk (.ofNat j))) (by unfold execOp; rw [ho]; simp only [g1, hi.i_inv]) ?_, .of (.ptr (g2.add _))⟩
      unfold Instr.indexAt
      have hj : j < n := Nat.le_of_ble_eq_true e5
      simp only [Sem.run_bind, run_und ok hu, Result.andThen_ok, asIntOf, Instr.sureAddr, Sem.run_pure]
      rw [if_pos ⟨by rw [Int.ofNat_eq_natCast]; omega, by rw [Int.ofNat_eq_natCast]; omega⟩]
      simp only [Sem.run_bind, run_size ok hz, Result.andThen_ok]
      rfl
    · exact noOp_pure P o
  · rename_i e hu
    split
    · rename_i z hz
      intro r tm h k L e
      obtain ⟨b, q, n, c, e1, e2⟩ := asSlice_some e
      obtain ⟨kk, j, e3, e4⟩ := asNat_some e2
      obtain ⟨e5, e6⟩ := rec_true e4
      rw [opd_f] at e1 e3
      refine ⟨_, e6, fun ρ a w ht => ?_⟩
      have hx := ht.ev x; rw [e1] at hx
      have hi := ht.ev i; rw [e3] at hi
      obtain ⟨a', c', g1, g2⟩ := hx.s_inv
      have hj : j < n := Nat.le_of_ble_eq_true e5
      have har : AR ρ ⟨b, q, none⟩ a' := by
        obtain ⟨h1, h2, _, h3⟩ := g2
        rcases h3 with h3 | h3
        · omega
        · unfold AR
          cases hb : ρ b with
          | fresh => simp only [hb] at h3
          | dead => trivial
          | «at» x y z => simp only [hb] at h3 ⊢; exact ⟨trivial, h3.2.1⟩
      refine ⟨.pointer (some (a'.add (j * z))), does_v (s := Instr.indexAt t (.slice (some a') n c') (.int kk (.ofNat j))) (by unfold execOp; rw [ho]; simp only [g1, hi.i_inv]) ?_, .of (.ptr (har.add _))⟩
      unfold Instr.indexAt
      simp only [Sem.run_bind, run_und ok hu, Result.andThen_ok, asIntOf, Sem.run_pure]
      rw [if_pos ⟨by rw [Int.ofNat_eq_natCast]; omega, by rw [Int.ofNat_eq_natCast]; omega⟩]
      simp only [Sem.run_bind, run_size ok hz, Result.andThen_ok]
      rfl
    · exact noOp_pure P o
  · exact noOp_pure P o
end
end Go.FX
