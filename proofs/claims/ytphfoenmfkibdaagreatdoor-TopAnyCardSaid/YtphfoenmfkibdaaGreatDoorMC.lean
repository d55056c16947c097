/- More operations of the quick machine, sound: reads and makes. -/
import Derived.Test.YtphfoenmfkibdaaGreatDoorMB
set_option linter.unusedSectionVars false
set_option linter.unusedVariables false
set_option linter.unusedSimpArgs false
set_option maxRecDepth 1000000
namespace Go.FX
variable [Sym]
section
variable {P : Program} {E : Env} {o : Oper} (ok : EnvOk P E) (qs : EqsOk P E)
include ok in
theorem index_pure {t : TypeId} {x i : Operand} (ho : o.op = .index t x i) : PureS P (indexOp E t (opd x) (opd i)).g o := by
  show PureS P (match E.und t with
    | some (.array n e) => (match E.size e with
      | some z => (⟨fun _ tm h k => asO ((opd x).f tm) fun v => asNat ((opd i).f tm) fun j => Bool.rec none (match v with | .agg cs => partOf E e cs.toList (Nat.mul j z) fun v => k v h | _ => none) (Nat.blt j n)⟩ : COp)
      | none => noOp)
    | some .string => ⟨fun _ tm h k => asO ((opd x).f tm) fun v => asNat ((opd i).f tm) fun j => match v with
      | .string s => (match s.data.toList[j]? with | some b => retU .u8 b.toNat fun z => k z h | none => none)
      | _ => none⟩
    | _ => noOp).g o
  split
  · rename_i n e hu
    split
    · rename_i z hz
      intro r tm h k L e
      obtain ⟨v, e1, e2⟩ := asO_some e
      obtain ⟨kk, j, e3, e4⟩ := asNat_some e2
      obtain ⟨e5, e6⟩ := rec_true e4
      rw [opd_f] at e1 e3
      split at e6
      · rename_i cs
        obtain ⟨v, e7, e8⟩ := partOf_some ok e6
        refine ⟨_, e7, fun ρ a w ht => ?_⟩
        have hx := ht.ev x; rw [e1] at hx
        have hi := ht.ev i; rw [e3] at hi
        obtain ⟨ys, g1, g2⟩ := hx.o_inv.agg_inv
        obtain ⟨v', g3, g4⟩ := e8 ρ ys w g2
        refine ⟨v', does_v (s := Instr.index t (.agg ys) (.int kk (.ofNat j))) (by unfold execOp; rw [ho]; simp only [g1, hi.i_inv]) ?_, g4⟩
        unfold Instr.index
        have hj : j < n := Nat.le_of_ble_eq_true e5
        simp only [Sem.run_bind, run_und ok hu, Result.andThen_ok, asIntOf, Sem.run_pure]
        rw [if_pos ⟨by rw [Int.ofNat_eq_natCast]; omega, by rw [Int.ofNat_eq_natCast]; omega⟩]
        simp only [Sem.run_bind, run_size ok hz, Result.andThen_ok]
        exact g3
      · cases e6
    · exact noOp_pure P o
  · rename_i hu
    intro r tm h k L e
    obtain ⟨v, e1, e2⟩ := asO_some e
    obtain ⟨kk, j, e3, e4⟩ := asNat_some e2
    rw [opd_f] at e1 e3
    split at e4
    · rename_i s
      split at e4
      · rename_i b hb
        rw [retU_eq] at e4
        refine ⟨_, e4, fun ρ a w ht => ⟨.int .u8 b.toNat, ?_, VR.int _ _⟩⟩
        have hx := ht.ev x; rw [e1] at hx
        have hi := ht.ev i; rw [e3] at hi
        refine does_v (s := Instr.index t (.string s) (.int kk (.ofNat j))) (by unfold execOp; rw [ho]; simp only [hx.o_inv.string_inv, hi.i_inv]) ?_
        unfold Instr.index
        simp only [Sem.run_bind, run_und ok hu, Result.andThen_ok, asIntOf, Sem.run_pure]
        have hlt : j < s.size := by
          have := List.getElem?_eq_some_iff.1 hb
          obtain ⟨hl, _⟩ := this
          exact hl
        have hs : s[j]? = some b := by
          have h1 : s[j]? = some s[j] := getElem?_pos s j hlt
          rw [h1]
          have h2 : s.data.toList[j]? = some (s.data.toList[j]'hlt) := List.getElem?_eq_getElem hlt
          rw [hb] at h2
          injection h2 with h2
          rw [h2]
          rfl
        rw [if_pos (by rw [Int.ofNat_eq_natCast]; omega)]
        have hj : (Int.ofNat j).toNat = j := rfl
        rw [hj, hs]
        rfl
      · cases e4
    · cases e4
  · exact noOp_pure P o
include ok in
theorem s2ap_pure {t : TypeId} {x : Operand} {n : Nat} {e : TypeId} (hu : E.und t = some (.array n e)) (ho : o.op = .sliceToArrayPointer t x) :
    PureS P (fun _ tm h k => asSlice ((opd x).f tm) fun b q l _ => Bool.rec none (k (.p b q) h) (Nat.ble n l && !Nat.beq l 0)) o := by
  intro r tm h k L e
  obtain ⟨b, q, l, c, e1, e2⟩ := asSlice_some e
  obtain ⟨e3, e4⟩ := rec_true e2
  rw [Bool.and_eq_true] at e3
  rw [opd_f] at e1
  refine ⟨_, e4, fun ρ a w ht => ?_⟩
  have hx := ht.ev x; rw [e1] at hx
  obtain ⟨a', c', g1, g2⟩ := hx.s_inv
  have hl : l ≠ 0 := by have := e3.2; rw [beq_iff] at this; simpa using this
  have har : AR ρ ⟨b, q, none⟩ a' := by
    obtain ⟨h1, h2, _, h3⟩ := g2
    rcases h3 with h3 | h3
    · omega
    · unfold AR
      cases hb : ρ b with
      | fresh => simp only [hb] at h3
      | dead => trivial
      | «at» x y z => simp only [hb] at h3 ⊢; exact ⟨trivial, h3.2.1⟩
  refine ⟨.pointer (some a'), does_v (s := Instr.arrayAt t (.slice (some a') l c')) (by unfold execOp; rw [ho]; simp only [g1]) ?_, .of (.ptr har)⟩
  unfold Instr.arrayAt
  simp only [Sem.run_bind, run_und ok hu, Result.andThen_ok]
  have := Nat.le_of_ble_eq_true e3.1
  rw [if_neg (by omega)]
  rfl
include ok in
theorem iface_pure {t : TypeId} {x : Operand} {d : TypeDesc} (hu : E.und t = some d) (hd : ∀ m, d ≠ .interface m) (ho : o.op = .makeInterface t x) :
    PureS P (fun _ tm h k => known ((opd x).f tm) fun v => k (.o (.iface t (FV.v v))) h) o := by
  intro r tm h k L e
  obtain ⟨e1, e2⟩ := known_some e
  refine ⟨_, e2, fun ρ a w ht => ⟨.iface t (a.eval x), does_v (s := Instr.makeInterface t (a.eval x)) (by unfold execOp; rw [ho]) ?_, ?_⟩⟩
  · unfold Instr.makeInterface
    simp only [Sem.run_bind, run_und ok hu, Result.andThen_ok]
    cases d <;> first | rfl | exact absurd rfl (hd _)
  · have hx := ht.ev x
    rw [opd_f] at e1 ⊢
    exact VR.iface (hx.known_inv e1)
theorem vals_some {l : List FV} {c : List Value → R} {L : List (FV × Heap)} (h : vals l c = some L) : ∃ vs, c vs = some L ∧ ∀ ρ (ws : List Value), All2 (FVR ρ) l ws → VRs ρ vs ws := by
  induction l generalizing c with
  | nil => exact ⟨[], h, fun ρ ws g => by cases g; exact .nil⟩
  | cons x xs ih =>
    have h' : known x (fun y => vals xs fun vs => c (FV.v y :: vs)) = some L := h
    obtain ⟨h1, h2⟩ := known_some h'
    obtain ⟨vs, h3, h4⟩ := ih h2
    exact ⟨FV.v x :: vs, h3, fun ρ ws g => by cases g with | cons a b => exact .cons (a.known_inv h1) (h4 ρ _ b)⟩
theorem opds_f (xs : List Operand) (tm : Tm) : (opds xs).f tm = xs.map (ev tm) := by
  induction xs with
  | nil => rfl
  | cons x xs ih =>
    show (opd x).f tm :: (opds xs).f tm = _
    rw [opd_f, ih]; rfl
theorem evs_All2 {ρ : Rho} {tm : Tm} {a : Act} (ht : TR ρ tm a.tmps) (xs : List Operand) : All2 (FVR ρ) (xs.map (ev tm)) (xs.map a.eval) := by
  induction xs with
  | nil => exact .nil
  | cons x xs ih => exact .cons (ht.ev x) ih
theorem map_list {α β : Type} (f : α → β) (a : Array α) : (a.map f).toList = a.toList.map f := by simp
theorem makeFunc_pure {fn : Fn} {xs ys : Array Operand} (hf : ∀ l, fn ≠ .yield l) (ho : o.op = .makeFunc fn xs ys) :
    PureS P (fun _ tm h k => vals ((opds xs.toList).f tm) fun us => vals ((opds ys.toList).f tm) fun vs => k (.o (.func fn ⟨us⟩ ⟨vs⟩)) h) o := by
  intro r tm h k L e
  obtain ⟨us, e1, e2⟩ := vals_some e
  obtain ⟨vs, e3, e4⟩ := vals_some e1
  refine ⟨_, e3, fun ρ a w ht => ⟨_, does_v (s := Instr.makeFunc fn (xs.map a.eval) (ys.map a.eval)) (by unfold execOp; rw [ho]) rfl, ?_⟩⟩
  refine VR.func ?_ ?_ ?_
  · cases fn <;> first | rfl | exact absurd rfl (hf _)
  · rw [map_list]; exact e2 ρ _ (by rw [opds_f]; exact evs_All2 ht _)
  · rw [map_list]; exact e4 ρ _ (by rw [opds_f]; exact evs_All2 ht _)
theorem minMax_pure {max : Bool} {x y : Operand} {c : Call} (hc : c.callee = .builtin (if max then .max else .min)) (ha : c.args.toList = [x, y]) (ho : o.op = .call c) : PureS P (minMax max (opd x) (opd y)).g o := by
  intro r tm h k L e
  have e' : asInt ((opd x).f tm) (fun i m => asInt ((opd y).f tm) fun j n => sameKind i j (Bool.rec (k (.i i m) h) (k (.i i n) h) (bif max then ilt m n else ilt n m))) = some L := e
  obtain ⟨i, m, e1, e2⟩ := asInt_some e'
  obtain ⟨j, n, e3, e4⟩ := asInt_some e2
  obtain ⟨e5, e6⟩ := sameKind_some e4
  subst e5
  rw [opd_f] at e1 e3
  have ha' : c.args = #[x, y] := by apply Array.ext'; rw [ha]
  have key : ∀ ρ (a : Act) w, TR ρ tm a.tmps → Does P o a w (.int i (bif (bif max then ilt m n else ilt n m) then n else m)) w := fun ρ a w ht => by
    have hx := ht.ev x; rw [e1] at hx
    have hy := ht.ev y; rw [e3] at hy
    left
    unfold execOp
    rw [ho]
    simp only [resolve, hc, ha']
    cases max with
    | true =>
      simp only [cond_true, ilt_eq]
      by_cases hlt : m < n <;> simp [invoke, Go.builtin, Builtin.max_, Builtin.max2, hx.i_inv, hy.i_inv, hlt]
    | false =>
      simp only [cond_false, ilt_eq]
      by_cases hlt : n < m <;> simp [invoke, Go.builtin, Builtin.min_, Builtin.min2, hx.i_inv, hy.i_inv, hlt]
  generalize hq : (bif max then ilt m n else ilt n m) = q at e6 key
  cases q with
  | true => exact ⟨_, e6, fun ρ a w ht => ⟨_, key ρ a w ht, VR.int _ _⟩⟩
  | false => exact ⟨_, e6, fun ρ a w ht => ⟨_, key ρ a w ht, VR.int _ _⟩⟩
include ok in
theorem assert_pure {x : Operand} {s t : TypeId} {b : Bool} (ho : o.op = .typeAssert x s t b) : PureS P (assertOp E (opd x) t b).g o := by
  show PureS P (match E.und t with
    | some (.interface want) => (⟨fun _ tm h k => asO ((opd x).f tm) fun v => match v with
      | .iface d v => (match T.get E.tt d with
        | some i => (match Instr.missingMethod want i.methods with
          | none => k (.o (bif b then .tuple ⟨[.iface d v, .bool true]⟩ else .iface d v)) h
          | some _ => bif b then (match E.zeroV t with | some z => k (.o (.tuple ⟨[z, .bool false]⟩)) h | none => none) else none)
        | none => none)
      | _ => none⟩ : COp)
    | _ => noOp).g o
  split
  · rename_i want hu
    intro r tm h k L e
    obtain ⟨v, e1, e2⟩ := asO_some e
    rw [opd_f] at e1
    split at e2
    · rename_i d v
      split at e2
      · rename_i i hi
        split at e2
        · rename_i hm
          refine ⟨_, e2, fun ρ a w ht => ?_⟩
          have hx := ht.ev x; rw [e1] at hx
          have hq := hx.o_inv
          cases hq' : a.eval x <;> rw [hq'] at hq <;> cases hq
          rename_i v' hv
          refine ⟨if b then .tuple #[.iface d v', .bool true] else .iface d v', does_v (s := Instr.typeAssert (.iface d v') s t b) (by unfold execOp; rw [ho]; simp only [hq']) ?_, ?_⟩
          · unfold Instr.typeAssert
            simp only [Sem.run_bind, run_und ok hu, run_info ok hi, Result.andThen_ok, hm]
            cases b <;> rfl
          · cases b with
            | true => exact VR.tuple (.cons (.iface hv) (.cons (.bool _) .nil))
            | false => exact VR.iface hv
        · rename_i q hm
          cases b with
          | false => cases e2
          | true =>
            simp only [cond_true] at e2
            split at e2
            · rename_i z hz
              obtain ⟨hz1, hz2⟩ := zeroV_ok ok hz
              refine ⟨_, e2, fun ρ a w ht => ?_⟩
              have hx := ht.ev x; rw [e1] at hx
              have hq := hx.o_inv
              cases hq' : a.eval x <;> rw [hq'] at hq <;> cases hq
              rename_i v' hv
              refine ⟨.tuple #[z, .bool false], does_v (s := Instr.typeAssert (.iface d v') s t true) (by unfold execOp; rw [ho]; simp only [hq']) ?_, VR.tuple (.cons (VR.closed 6 _ hz2) (.cons (.bool _) .nil))⟩
              unfold Instr.typeAssert
              simp only [Sem.run_bind, run_und ok hu, run_info ok hi, Result.andThen_ok, hm, if_true, hz1]
              rfl
            · cases e2
      · cases e2
    · cases e2
  · exact noOp_pure P o
end
end Go.FX
namespace Go.FX
variable [Sym]

/-! ### Cells put over others -/

theorem overAt_some : ∀ {new vs : List Value} {c : List Value → R} {L : List (FV × Heap)}, overAt vs new c = some L → new.length ≤ vs.length ∧ c (new ++ vs.drop new.length) = some L
  | [], vs, c, L, h => ⟨Nat.zero_le _, h⟩
  | y :: ys, [], c, L, h => by cases h
  | y :: ys, x :: xs, c, L, h => by
    have h' : overAt xs ys (fun l => c (y :: l)) = some L := h
    obtain ⟨a, b⟩ := overAt_some h'
    exact ⟨by simpa using a, by simpa using b⟩
theorem over_some : ∀ {off : Nat} {new vs : List Value} {c : List Value → R} {L : List (FV × Heap)}, over vs off new c = some L → off + new.length ≤ vs.length ∧ c (vs.take off ++ new ++ vs.drop (off + new.length)) = some L
  | 0, new, vs, c, L, h => by
    have h' : overAt vs new c = some L := h
    obtain ⟨a, b⟩ := overAt_some h'
    exact ⟨by simpa using a, by simpa using b⟩
  | n + 1, new, [], c, L, h => by cases h
  | n + 1, new, x :: xs, c, L, h => by
    have h' : over xs n new (fun l => c (x :: l)) = some L := h
    obtain ⟨a, b⟩ := over_some h'
    refine ⟨by simp; omega, ?_⟩
    rw [show n + 1 + new.length = (n + new.length) + 1 from by omega]
    simpa using b
theorem cellsOf_some {x : FV} {c : List Value → R} {L : List (FV × Heap)} (h : cellsOf x c = some L) :
    ∃ new, c new = some L ∧ (∀ ρ v', FVR ρ x v' → VRs ρ new v'.cells.toList) := by
  cases x with
  | i k n => exact ⟨_, h, fun ρ v' g => by rw [g.i_inv]; exact .cons (.int _ _) .nil⟩
  | b t => exact ⟨_, h, fun ρ v' g => by rw [g.b_inv]; exact .cons (.bool _) .nil⟩
  | p k o => exact ⟨_, h, fun ρ v' g => by obtain ⟨a', e, q⟩ := g.p_inv; rw [e]; exact .cons (.ptr q) .nil⟩
  | s k o n m => exact ⟨_, h, fun ρ v' g => by obtain ⟨a', c', e, q⟩ := g.s_inv; rw [e]; exact .cons (.slice q) .nil⟩
  | u => cases h
  | o v =>
    cases v with
    | agg xs => exact ⟨xs.toList, h, fun ρ v' g => by obtain ⟨ys, e, q⟩ := g.o_inv.agg_inv; rw [e]; exact q⟩
    | tuple xs => cases (show (none : R) = some L from h)
    | _ =>
      refine ⟨[_], h, fun ρ v' g => ?_⟩
      have g' := g.o_inv
      cases g' <;> exact .cons g.o_inv .nil
theorem VRs.over {ρ : Rho} {vs vs' new new' : List Value} (h : VRs ρ vs vs') (hn : VRs ρ new new') (off : Nat) :
    VRs ρ (vs.take off ++ new ++ vs.drop (off + new.length)) (vs'.take off ++ new' ++ vs'.drop (off + new'.length)) := by
  rw [← hn.length]
  exact ((h.take off).append hn).append (h.drop _)
theorem foldl_set (f : Nat → Nat) : ∀ (new : List Value) (cs : Array Value) (off j : Nat), (∀ i, f i = off + i) → off + j + new.length ≤ cs.size →
    ((new.zipIdx j).foldl (fun cs p => cs.setIfInBounds (f p.2) p.1) cs).toList = cs.toList.take (off + j) ++ new ++ cs.toList.drop (off + j + new.length)
  | [], cs, off, j, hf, h => by simp
  | x :: xs, cs, off, j, hf, h => by
    simp only [List.length_cons] at h
    rw [List.zipIdx_cons, List.foldl_cons, foldl_set f xs _ off (j + 1) hf (by simp; omega)]
    rw [hf j, Array.toList_setIfInBounds]
    have hlt : off + j < cs.toList.length := by simp; omega
    have h1 : (cs.toList.set (off + j) x).take (off + (j + 1)) = cs.toList.take (off + j) ++ [x] := by
      rw [show off + (j + 1) = (off + j) + 1 from by omega, List.take_succ_eq_append_getElem (by simpa using hlt)]
      simp [List.take_set_of_le]
    have h2 : (cs.toList.set (off + j) x).drop (off + (j + 1) + xs.length) = cs.toList.drop (off + (j + 1) + xs.length) := List.drop_set_of_lt (by omega)
    rw [h1, h2]
    simp only [List.length_cons, List.append_assoc, List.cons_append, List.nil_append]
    rw [show off + (j + 1) + xs.length = off + j + (xs.length + 1) from by omega]
theorem fill_step {cs : Array Value} {v : Value} {off : Nat} (h : off + v.cells.size ≤ cs.size) :
    (v.cells.zipIdx.foldl (fun cs (p : Value × Nat) => cs.setIfInBounds (off + p.2) p.1) cs).toList = cs.toList.take off ++ v.cells.toList ++ cs.toList.drop (off + v.cells.toList.length) := by
  rw [← Array.foldl_toList, Array.toList_zipIdx]
  have := foldl_set (fun i => off + i) v.cells.toList cs off 0 (fun _ => rfl) (by simpa using h)
  simpa using this
/-- The parts of a thing that is built, and what they are. -/
theorem fill_some {place : Nat → Option (Nat × Nat)} {tm : Tm} : ∀ {ps : List (Nat × Operand)} {g : Tm → List (Nat × Nat × FV)} {cells : List Value} {c : List Value → R} {L : List (FV × Heap)},
    parts place ps = some ⟨g⟩ → fill cells (g tm) c = some L → ∃ out, c out = some L ∧ ∀ ρ (a : Act) (cs : Array Value), TR ρ tm a.tmps → VRs ρ cells cs.toList →
      ∃ cs', Instr.fill place cs (ps.map fun p => (p.1, a.eval p.2)) = some cs' ∧ VRs ρ out cs'.toList
  | [], g, cells, c, L, hp, h => by
    cases hp
    exact ⟨cells, h, fun ρ a cs _ hr => ⟨cs, rfl, hr⟩⟩
  | (i, x) :: r, g, cells, c, L, hp, h => by
    have hp' : (match place i, opd x, parts place r with
      | some (o, z), ⟨f⟩, some ⟨g⟩ => some (⟨fun tm => (o, z, f tm) :: g tm⟩ : Parts)
      | _, _, _ => none) = some ⟨g⟩ := hp
    cases hpl : place i with
    | none => rw [hpl] at hp'; cases hp'
    | some oz =>
      obtain ⟨o, z⟩ := oz
      cases hpr : parts place r with
      | none => rw [hpl, hpr] at hp'; cases hp'
      | some gp =>
        obtain ⟨g'⟩ := gp
        rw [hpl, hpr] at hp'
        have hg : g = fun tm => (o, z, (opd x).f tm) :: g' tm := by cases hp'; rfl
        subst hg
        have h' : cellsOf ((opd x).f tm) (fun new => Bool.rec none (FX.over cells o new fun cs' => fill cs' (g' tm) c) (Nat.beq new.length z)) = some L := h
        obtain ⟨new, h1, h2⟩ := cellsOf_some h'
        obtain ⟨h3, h4⟩ := rec_true h1
        obtain ⟨h5, h6⟩ := over_some h4
        obtain ⟨out, h7, h8⟩ := fill_some hpr h6
        refine ⟨out, h7, fun ρ a cs ht hr => ?_⟩
        have hx := ht.ev x
        rw [opd_f] at h2
        have hn := h2 ρ _ hx
        have hl := hr.length
        have hnl := hn.length
        have hz := Nat.eq_of_beq_eq_true h3
        have hsz : (a.eval x).cells.size = z := by rw [← Array.length_toList, ← hnl]; exact hz
        have hle : o + (a.eval x).cells.size ≤ cs.size := by rw [← Array.length_toList, ← Array.length_toList, ← hnl, ← hl]; exact h5
        have hst := fill_step (cs := cs) (v := a.eval x) (off := o) hle
        obtain ⟨cs', g1, g2⟩ := h8 ρ a _ ht (by rw [hst]; exact hr.over hn o)
        refine ⟨cs', ?_, g2⟩
        simp only [List.map_cons, Instr.fill, hpl]
        rw [if_neg (by simp [hsz]; omega)]
        exact g1
theorem mapM_run {P : Program} {α β : Type} {f : α → Sem β} {w : World} : ∀ {l : List α} {l' : List β}, All2 (fun a b => (f a).run P w = .ok b w) l l' → (l.mapM f).run P w = .ok l' w
  | _, _, .nil => rfl
  | _, _, .cons h hs => by
    rw [List.mapM_cons]
    simp [h, mapM_run hs]
theorem arrMapM_run {P : Program} {α β : Type} {f : α → Sem β} {w : World} {l : Array α} {l' : List β} (h : All2 (fun a b => (f a).run P w = .ok b w) l.toList l') : ∃ r : Array β, (l.mapM f).run P w = .ok r w ∧ r.toList = l' := by
  have h1 := mapM_run h
  rw [← Array.toList_mapM] at h1
  cases hr : (l.mapM f).run P w with
  | ok r w' =>
    have h2 : ((Array.toList <$> l.mapM f)).run P w = .ok r.toList w' := by rw [Sem.run_map, hr]; rfl
    rw [h2] at h1
    cases h1
    exact ⟨r, rfl, rfl⟩
  | halt x w' =>
    have h2 : ((Array.toList <$> l.mapM f)).run P w = .halt x w' := by rw [Sem.run_map, hr]; rfl
    rw [h2] at h1
    cases h1
section
variable {P : Program} {E : Env} {o : Oper} (ok : EnvOk P E) (qs : EqsOk P E)
include ok in
theorem fieldPlaces_ok : ∀ {fs : List Field} {l : List (Nat × Nat)}, fieldPlaces E fs = some l → ∀ w, All2 (fun (f : Field) b => (do pure (f.offset, ← sizeOf f.type) : Sem (Nat × Nat)).run P w = .ok b w) fs l
  | [], l, h, w => by cases h; exact .nil
  | f :: fs, l, h, w => by
    unfold fieldPlaces at h
    cases h1 : E.size f.type with
    | none => simp only [h1] at h; cases h
    | some s =>
      cases h2 : fieldPlaces E fs with
      | none => simp only [h1, h2] at h; cases h
      | some l' =>
        simp only [h1, h2] at h
        cases h
        exact .cons (by simp [run_size ok h1]) (fieldPlaces_ok h2 w)
include ok in
theorem build_pure {t : TypeId} {ps : Array (Nat × Operand)} (ho : o.op = .build t ps) : PureS P (build' E t ps.toList).g o := by
  unfold build'
  split
  · rename_i fs z hu hz
    split
    · rename_i l hl
      split
      · rename_i g hg
        intro r tm h k L e
        obtain ⟨out, e1, e2⟩ := fill_some hg e
        refine ⟨_, e1, fun ρ a w ht => ?_⟩
        obtain ⟨zv, hz1, hz2, hz3⟩ := zero_ok ok hz
        obtain ⟨cs', g1, g2⟩ := e2 ρ a zv.cells ht (by rw [hz2]; exact hz3 ρ)
        obtain ⟨places, p1, p2⟩ := arrMapM_run (fieldPlaces_ok ok hl w)
        refine ⟨.agg cs', does_v (s := Instr.build t (ps.map fun (i, x) => (i, a.eval x))) (by unfold execOp; rw [ho]) ?_, VR.agg g2⟩
        unfold Instr.build
        simp only [Sem.run_bind, run_und ok hu, Result.andThen_ok, hz1, p1]
        have hpl : (fun (i : Nat) => places[i]?) = fun i => l[i]? := by funext i; rw [← p2, Array.getElem?_toList]
        rw [hpl]
        have hmap : (ps.map fun (p : Nat × Operand) => (p.1, a.eval p.2)).toList = ps.toList.map fun p => (p.1, a.eval p.2) := by simp
        have g1' : Instr.fill (fun i => l[i]?) zv.cells (ps.map fun (p : Nat × Operand) => (p.1, a.eval p.2)).toList = some cs' := by rw [hmap]; exact g1
        rw [g1']
        rfl
      · exact noOp_pure P o
    · exact noOp_pure P o
  · rename_i n e z hu hz
    split
    · rename_i s hs
      split
      · rename_i g hg
        intro r tm h k L e
        obtain ⟨out, e1, e2⟩ := fill_some hg e
        refine ⟨_, e1, fun ρ a w ht => ?_⟩
        obtain ⟨zv, hz1, hz2, hz3⟩ := zero_ok ok hz
        obtain ⟨cs', g1, g2⟩ := e2 ρ a zv.cells ht (by rw [hz2]; exact hz3 ρ)
        refine ⟨.agg cs', does_v (s := Instr.build t (ps.map fun (i, x) => (i, a.eval x))) (by unfold execOp; rw [ho]) ?_, VR.agg g2⟩
        unfold Instr.build
        simp only [Sem.run_bind, run_und ok hu, Result.andThen_ok, hz1, run_size ok hs]
        have hmap : (ps.map fun (p : Nat × Operand) => (p.1, a.eval p.2)).toList = ps.toList.map fun p => (p.1, a.eval p.2) := by simp
        have g1' : Instr.fill (fun i => some (i * s, s)) zv.cells (ps.map fun (p : Nat × Operand) => (p.1, a.eval p.2)).toList = some cs' := by rw [hmap]; exact g1
        rw [g1']
        rfl
      · exact noOp_pure P o
    · exact noOp_pure P o
  · exact noOp_pure P o
end
end Go.FX
namespace Go.FX
variable [Sym]

/-! ### Operations that read -/

/-- All that one heap has, another one has too. -/
def Sub (h h' : Heap) : Prop := ∀ k B, h.get k = some B → h'.get k = some B
theorem Sub.refl (h : Heap) : Sub h h := fun _ _ e => e
theorem Sub.trans {h h' h'' : Heap} (a : Sub h h') (b : Sub h' h'') : Sub h h'' := fun k B e => b k B (a k B e)
/-- The world has what the heap has, and more. -/
def HRs (ρ : Rho) (h : Heap) (w : World) : Prop := ∃ h', Sub h h' ∧ HR ρ h' w
theorem HR.s {ρ : Rho} {h : Heap} {w : World} (hr : HR ρ h w) : HRs ρ h w := ⟨h, .refl h, hr⟩
theorem HRs.live {ρ : Rho} {h : Heap} {w : World} (hr : HRs ρ h w) {k : Nat} {B : Blk} (e : h.get k = some B) (hf : ρ k ≠ .fresh) : ∃ b s i o, ρ k = .at b s i ∧ w.heap[b]? = some o ∧ BR ρ s i B o :=
  let ⟨_, hs, hr⟩ := hr
  hr.live (hs k B e) hf
theorem HRs.at {ρ : Rho} {h : Heap} {w : World} (hr : HRs ρ h w) {k b s : Nat} {i : Info} {B : Blk} (e : h.get k = some B) (hk : ρ k = .at b s i) : ∃ o, w.heap[b]? = some o ∧ BR ρ s i B o := by
  obtain ⟨b', s', i', o, h1, h2, h3⟩ := hr.live e (by rw [hk]; simp)
  rw [hk] at h1; cases h1
  exact ⟨o, h2, h3⟩

def ReadS (P : Program) (g : FR → Tm → Heap → K → R) (o : Oper) : Prop :=
  ∀ r tm h k L, g r tm h k = some L → ∃ v, k v h = some L ∧ ∀ ρ (a : Act) w, TR ρ tm a.tmps → HRs ρ h w → ∃ v', Does P o a w v' w ∧ FVR ρ v v'
theorem PureS.read {P : Program} {g : FR → Tm → Heap → K → R} {o : Oper} (h : PureS P g o) : ReadS P g o := fun r tm hp k L e =>
  let ⟨v, e1, e2⟩ := h r tm hp k L e
  ⟨v, e1, fun ρ a w ht _ => e2 ρ a w ht⟩
theorem noOp_read (P : Program) (o : Oper) : ReadS P noOp.g o := (noOp_pure P o).read

theorem withCells_some {h : Heap} {k : Nat} {c : List Value → TypeId → Nat → Bool → R} {L : List (FV × Heap)} (e : withCells h k c = some L) :
    ∃ vs t z l, h.get k = some (.cells vs t z l) ∧ c vs t z l = some L := by
  unfold withCells at e
  split at e
  · rename_i vs t z l hk; exact ⟨vs, t, z, l, hk, e⟩
  · cases e
/-- The cells that lie behind an address. -/
theorem cell_at {ρ : Rho} {h : Heap} {w : World} (hr : HRs ρ h w) {k o : Nat} {a' : Addr} (ha : AR ρ ⟨k, o, none⟩ a') {vs : List Value} {t : TypeId} {z : Nat} {l : Bool} (hk : h.get k = some (.cells vs t z l)) :
    ∃ b s i c ct lo hi, ρ k = .at b s i ∧ a' = ⟨b, o + s, none⟩ ∧ w.heap[b]? = some (.cells c ct (lo, hi)) ∧ i = ⟨l, z, vs.length, c.size⟩ ∧ s + vs.length ≤ c.size ∧ (((l = true ∨ z ≠ 1000) → ∀ j, j < c.size → ¬ (lo ≤ j ∧ j < hi)) ∧ (l = false → z ≠ 1000 → hi ≤ lo)) ∧
      ∀ (j : Nat) (v : Value), vs[j]? = some v → ∃ v', c[s + j]? = some v' ∧ VR ρ v v' := by
  have hf : ρ k ≠ .fresh := fun e => by unfold AR at ha; simp only [e] at ha
  obtain ⟨b, s, i, ob, h1, h2, h3⟩ := hr.live hk hf
  obtain ⟨c, ct, lo, hi, q1, q2, q3, q4, q5⟩ := h3
  unfold AR at ha
  simp only [h1] at ha
  exact ⟨b, s, i, c, ct, lo, hi, h1, ha.2, by rw [h2, q1], q2, q3, q4, q5⟩
theorem cell_of {w : World} {b i : Nat} {c : Array Value} {ct : TypeId} {f : Nat × Nat} (h : w.heap[b]? = some (.cells c ct f)) : w.cell? ⟨b, i, none⟩ = c[i]? := by
  unfold World.cell?
  simp only [h]
  rfl
theorem load_run {P : Program} {w : World} {a : Addr} {v : Value} (h : w.cell? a = some v) : (load a).run P w = .ok v w := by
  unfold load
  simp only [Sem.run, h]
theorem add_none (b i n : Nat) : Addr.add ⟨b, i, none⟩ n = ⟨b, i + n, none⟩ := by
  unfold Addr.add
  split
  · rename_i h; subst h; rfl
  · rfl
/-- So many cells read from memory. -/
theorem loadCells_run {P : Program} {w : World} {b : Nat} {c : Array Value} {ct : TypeId} {f : Nat × Nat} (h : w.heap[b]? = some (.cells c ct f)) :
    ∀ (n i o : Nat) (acc : Array Value), o + i + n ≤ c.size → (loadCellsFrom ⟨b, o, none⟩ i n acc).run P w = .ok (acc ++ (⟨(c.toList.drop (o + i)).take n⟩ : Array Value)) w
  | 0, i, o, acc, hl => by simp [loadCellsFrom]
  | n + 1, i, o, acc, hl => by
    unfold loadCellsFrom
    have hlt : o + i < c.size := by omega
    have hc : w.cell? (Addr.add ⟨b, o, none⟩ i) = some c[o + i] := by
      rw [add_none, cell_of h, Array.getElem?_eq_getElem hlt]
    simp only [Sem.run_bind, load_run hc, Result.andThen_ok]
    rw [loadCells_run h n (i + 1) o (acc.push c[o + i]) (by omega)]
    congr 1
    apply Array.ext'
    have hd : c.toList.drop (o + i) = c[o + i] :: c.toList.drop (o + i + 1) := by
      rw [List.drop_eq_getElem_cons (by simpa using hlt)]; simp
    simp [hd, Nat.add_assoc]
theorem readCells_some {h : Heap} {k o n : Nat} {c : List Value → R} {L : List (FV × Heap)} (e : readCells h k o n c = some L) :
    ∃ out, c out = some L ∧ out.length = n ∧ (∃ vs t z l, h.get k = some (.cells vs t z l) ∧ n ≤ (vs.drop o).length ∧ out = (vs.drop o).take n) ∧ ∀ (P : Program) ρ w a', HRs ρ h w → AR ρ ⟨k, o, none⟩ a' → ∃ out' : Array Value, (∀ w' : World, w'.heap = w.heap → (loadCells a' n).run P w' = .ok out' w') ∧ VRs ρ out out'.toList := by
  unfold readCells at e
  obtain ⟨vs, t, z, l, h1, h2⟩ := withCells_some e
  obtain ⟨h3, h4⟩ := takeN_some h2
  rw [dropN_eq] at h3 h4
  refine ⟨_, h4, by simp; simp at h3; omega, ⟨vs, t, z, l, h1, h3, rfl⟩, fun P ρ w a' hr ha => ?_⟩
  obtain ⟨b, s, i, cc, ct, lo, hi, q1, q2, q3, q4, q5, q6, q7⟩ := cell_at hr ha h1
  subst q2
  have hlen : n ≤ vs.length - o := by simpa using h3
  have hvs : VRs ρ ((vs.drop o).take n) ((cc.toList.drop (o + s)).take n) := by
    refine VRs.of_get (by simp; omega) fun j v hj => ?_
    rw [List.getElem?_take] at hj ⊢
    split at hj
    · rename_i hjn
      rw [if_pos hjn]
      rw [List.getElem?_drop] at hj ⊢
      obtain ⟨v', g1, g2⟩ := q7 _ _ hj
      refine ⟨v', ?_, g2⟩
      rw [Array.getElem?_toList, ← g1]
      congr 1
      omega
    · cases hj
  by_cases hn : n = 0
  · subst hn
    refine ⟨#[], fun _ _ => rfl, by simp; exact .nil⟩
  · refine ⟨⟨(cc.toList.drop (o + s)).take n⟩, fun w' hw => ?_, hvs⟩
    unfold loadCells
    have := loadCells_run (P := P) (w := w') (by rw [hw]; exact q3) n 0 (o + s) #[] (by omega)
    simpa using this
theorem readCell_some {h : Heap} {k o : Nat} {c : Value → R} {L : List (FV × Heap)} (e : readCell h k o c = some L) :
    ∃ v, c v = some L ∧ ∀ (P : Program) ρ w a', HRs ρ h w → AR ρ ⟨k, o, none⟩ a' → ∃ v', (load a').run P w = .ok v' w ∧ VR ρ v v' := by
  unfold readCell at e
  obtain ⟨vs, t, z, l, h1, h2⟩ := withCells_some e
  obtain ⟨v, h3, h4⟩ := nth_some h2
  refine ⟨v, h4, fun P ρ w a' hr ha => ?_⟩
  obtain ⟨b, s, i, cc, ct, lo, hi, q1, q2, q3, q4, q5, q6, q7⟩ := cell_at hr ha h1
  obtain ⟨v', g1, g2⟩ := q7 _ _ h3
  subst q2
  refine ⟨v', load_run ?_, g2⟩
  rw [cell_of q3, ← g1]
  congr 1
  omega
section
variable {P : Program} {E : Env} {o : Oper} (ok : EnvOk P E) (qs : EqsOk P E)
include ok in
theorem load_read {t : TypeId} {x : Operand} (ho : o.op = .load t x) : ReadS P (loadOp E t (opd x)).g o := by
  show ReadS P (match E.und t, E.size t with
    | some d, some n => bif isAggD d then (⟨fun _ tm h k => asPtr ((opd x).f tm) fun b o => readCells h b o n fun l => k (.o (.agg ⟨l⟩)) h⟩ : COp)
      else ⟨fun _ tm h k => asPtr ((opd x).f tm) fun b o => readCell h b o fun v => k (ofV v) h⟩
    | _, _ => noOp).g o
  split
  · rename_i d n hu hs
    cases hA : isAggD d with
    | true =>
      intro r tm h k L e
      obtain ⟨b, q, e1, e2⟩ := asPtr_some e
      obtain ⟨out, e3, e4, _, e5⟩ := readCells_some e2
      rw [opd_f] at e1
      refine ⟨_, e3, fun ρ a w ht hr => ?_⟩
      have hx := ht.ev x; rw [e1] at hx
      obtain ⟨a', g1, g2⟩ := hx.p_inv
      obtain ⟨out', g3, g4⟩ := e5 P ρ w a' hr g2
      refine ⟨.agg out', does_v (s := Instr.loadAt t (.pointer (some a'))) (by unfold execOp; rw [ho]; simp only [g1]) ?_, VR.agg g4⟩
      unfold Instr.loadAt loadVar
      simp only [Sem.run_bind, Instr.sureAddr, Sem.run_pure, Result.andThen_ok, run_agg ok hu, hA, if_true, run_size ok hs, g3 w rfl]
    | false =>
      intro r tm h k L e
      obtain ⟨b, q, e1, e2⟩ := asPtr_some e
      obtain ⟨v, e3, e5⟩ := readCell_some e2
      rw [opd_f] at e1
      refine ⟨_, e3, fun ρ a w ht hr => ?_⟩
      have hx := ht.ev x; rw [e1] at hx
      obtain ⟨a', g1, g2⟩ := hx.p_inv
      obtain ⟨v', g3, g4⟩ := e5 P ρ w a' hr g2
      refine ⟨v', does_v (s := Instr.loadAt t (.pointer (some a'))) (by unfold execOp; rw [ho]; simp only [g1]) ?_, .ofV g4⟩
      unfold Instr.loadAt loadVar
      simp only [Sem.run_bind, Instr.sureAddr, Sem.run_pure, Result.andThen_ok, run_agg ok hu, hA, Bool.false_eq_true, if_false, g3]
  · exact noOp_read P o
/-- A map's entries. -/
theorem map_at {ρ : Rho} {h : Heap} {w : World} (hr : HRs ρ h w) {r r' : Nat} (hm : MR ρ r r') {es : List Entry} {cl : Nat} (hk : h.get r = some (.map es cl)) :
    ∃ i es', ρ r = .at r' 0 i ∧ w.heap[r']? = some (.map es' cl) ∧ All2 (EntR ρ) es es'.toList := by
  have hf : ρ r ≠ .fresh := fun e => by unfold MR at hm; simp only [e] at hm
  obtain ⟨b, s, i, ob, h1, h2, h3⟩ := hr.live hk hf
  obtain ⟨q1, es', q2, q3⟩ := h3
  unfold MR at hm
  simp only [h1] at hm
  obtain ⟨m1, m2⟩ := hm
  subst m1 m2
  exact ⟨i, es', h1, by rw [h2, q2], q3⟩
theorem getObj_run {w : World} {r : Nat} {ob : Obj} (h : w.heap[r]? = some ob) (hc : ∀ c t f, ob ≠ .cells c t f) : (getObj r).run P w = .ok ob w := by
  unfold getObj
  simp only [Sem.run, h]
theorem call_len {c : Call} {t : TypeId} {x : Operand} (hc : c.callee = .builtin .len) (ht : c.argTypes.toList = [t]) (ha : c.args.toList = [x]) (ho : o.op = .call c) (a : Act) :
    execOp a.eval o = (do pure (Next.value (← Builtin.len_ #[t] o.type #[a.eval x]))) := by
  have ht' : c.argTypes = #[t] := by apply Array.ext'; rw [ht]
  have ha' : c.args = #[x] := by apply Array.ext'; rw [ha]
  unfold execOp
  rw [ho]
  simp only [resolve, hc, ht', ha']
  simp [invoke, Go.builtin]
include ok in
theorem len_read {c : Call} {t : TypeId} {x : Operand} (hc : c.callee = .builtin .len) (ht : c.argTypes.toList = [t]) (ha : c.args.toList = [x]) (ho : o.op = .call c) :
    ReadS P (lenOp E t (opd x)).g o ∧ ((∀ k e, E.und t ≠ some (.map k e)) → PureS P (lenOp E t (opd x)).g o) := by
  have he := fun a => call_len hc ht ha ho a
  have key : (∀ k e, E.und t ≠ some (.map k e)) → PureS P (lenOp E t (opd x)).g o := by
    intro hm
    show PureS P (lenAt E t (opd x).f).g o
    unfold lenAt
    split
    · rename_i hu
      intro r tm h k L e
      obtain ⟨v, e1, e2⟩ := asO_some e
      rw [opd_f] at e1
      split at e2
      · rename_i s
        rw [retU_eq] at e2
        refine ⟨_, e2, fun ρ a w ht => ⟨_, does_v (he a) ?_, VR.int _ _⟩⟩
        have hx := ht.ev x; rw [e1] at hx
        rw [hx.o_inv.string_inv]
        simp [Builtin.len_, run_und ok hu]
        rfl
      · cases e2
    · rename_i el hu
      intro r tm h k L e
      have e' : known ((opd x).f tm) (fun v => match FV.v v with | .slice _ n _ => retU .i64 n fun z => k z h | _ => none) = some L := e
      obtain ⟨e1, e2⟩ := known_some e'
      rw [opd_f] at e1 e2
      split at e2
      · rename_i ad n m hv
        rw [retU_eq] at e2
        refine ⟨_, e2, fun ρ a w ht => ⟨_, does_v (he a) ?_, VR.int _ _⟩⟩
        have hx := (ht.ev x).known_inv e1
        rw [hv] at hx
        cases hq : a.eval x <;> rw [hq] at hx <;> cases hx <;> (simp [Builtin.len_, run_und ok hu]; rfl)
      · cases e2
    · rename_i n el hu
      intro r tm h k L e
      have e2 : retU .i64 n (fun z => k z h) = some L := e
      rw [retU_eq] at e2
      refine ⟨_, e2, fun ρ a w ht => ⟨_, does_v (he a) ?_, VR.int _ _⟩⟩
      simp [Builtin.len_, run_und ok hu]; rfl
    · rename_i kt et hu; exact absurd hu (hm _ _)
    · exact noOp_pure P o
  refine ⟨?_, key⟩
  by_cases hm : ∃ k e, E.und t = some (.map k e)
  · obtain ⟨kt, et, hu⟩ := hm
    have : lenOp E t (opd x) = ⟨fun _ tm h k => asO ((opd x).f tm) fun v => match v with
      | .map none => k (.i .i64 0) h
      | .map (some r) => (match Heap.get h r with | some (.map es _) => retU .i64 es.length fun z => k z h | _ => none)
      | _ => none⟩ := by
      show lenAt E t (opd x).f = _
      unfold lenAt
      simp only [hu]
      rfl
    rw [this]
    intro r tm h k L e
    obtain ⟨v, e1, e2⟩ := asO_some e
    rw [opd_f] at e1
    split at e2
    · refine ⟨_, e2, fun ρ a w ht _ => ⟨_, does_v (he a) ?_, VR.int _ _⟩⟩
      have hx := ht.ev x; rw [e1] at hx
      have hq := hx.o_inv
      cases hq' : a.eval x <;> rw [hq'] at hq <;> cases hq
      simp [Builtin.len_, run_und ok hu]; rfl
    · rename_i m
      split at e2
      · rename_i es cl hk
        rw [retU_eq] at e2
        refine ⟨_, e2, fun ρ a w ht hr => ?_⟩
        have hx := ht.ev x; rw [e1] at hx
        have hq := hx.o_inv
        cases hq' : a.eval x <;> rw [hq'] at hq <;> cases hq
        rename_i m' hm
        obtain ⟨i, es', g1, g2, g3⟩ := map_at hr hm hk
        refine ⟨_, does_v (he a) ?_, VR.int _ _⟩
        rw [hq']
        have hl := g3.length
        simp [Builtin.len_, run_und ok hu, getObj_run g2 (by simp), goInt]
        rw [hl]; simp
      · cases e2
    · cases e2
  · exact (key fun k e he' => hm ⟨k, e, he'⟩).read
end
end Go.FX
namespace Go.FX
variable [Sym]

/-! ### Keys -/

/-- What is known of a way to hold keys against each other. -/
structure KeyOk (P : Program) (kt : TypeId) (f : Value → Value → Option Bool) : Prop where
  und : ∃ d, P.underlying kt = some d ∧
    ((∀ ρ a b r a' b', f a b = some r → VR ρ a a' → VR ρ b b' → Instr.sameNow d a' b' = some r) ∨
     (∀ ρ a b r a' b' w, f a b = some r → VR ρ a a' → VR ρ b b' → Instr.sameNow d a' b' = none ∧ (Op.equal kt a' b').run P w = .ok r w))
  key : ∀ ρ a a' e w, (f a a).isSome = true → VR ρ a a' → (Instr.checkKey e 10000 kt a').run P w = .ok () w
  bits : ∀ ρ a b a' b', f a b = some true → VR ρ a a' → VR ρ b b' → Instr.sameBits 10000 b' a' = true

theorem check_plain {P : Program} {kt : TypeId} {d : TypeDesc} (hu : P.underlying kt = some d) (hd : (∃ k, d = .int k) ∨ d = .string ∨ d = .bool) (e : Bool) (v : Value) (w : World) (n : Nat) :
    (Instr.checkKey e (n + 1) kt v).run P w = .ok () w := by
  simp only [Instr.checkKey, Sem.run_bind, run_underlying hu, Result.andThen_ok]
  rcases hd with ⟨k, rfl⟩ | rfl | rfl <;> rfl
theorem sameBits_succ (n : Nat) (a b : Value) : Instr.sameBits (n + 1) a b = (match a, b with
    | .bool a, .bool b => a == b
    | .int j a, .int k b => j == k && a == b
    | .float j a, .float k b => j == k && a == b
    | .complex j a c, .complex k b d => j == k && a == b && c == d
    | .string a, .string b => a == b
    | .pointer a, .pointer b => a == b
    | .chan a, .chan b => a == b
    | .nilIface, .nilIface => true
    | .iface t v, .iface u w => t == u && Instr.sameBits n v w
    | .agg a, .agg b => a.size == b.size && (a.toList.zip b.toList).all fun (x, y) => Instr.sameBits n x y
    | _, _ => false) := by
  cases a <;> cases b <;> rfl
theorem bytes_beq (a b : ByteArray) (h : beqs a.data.toList b.data.toList = true) : a = b := by
  rw [beqs_eq, beq_iff_eq] at h
  apply ByteArray.ext
  apply Array.ext'
  exact h
theorem bytes_eq (a b : ByteArray) : (a == b) = beqs a.data.toList b.data.toList := by
  obtain ⟨⟨a⟩⟩ := a
  obtain ⟨⟨b⟩⟩ := b
  rw [beqs_eq]
  have : ((⟨⟨a⟩⟩ : ByteArray) == ⟨⟨b⟩⟩) = ((⟨a⟩ : Array UInt8) == ⟨b⟩) := rfl
  rw [this, Bool.eq_iff_iff, beq_iff_eq, beq_iff_eq]
  simp
theorem eq1_bits {ρ : Rho} {a b a' b' : Value} (n : Nat) (h : eq1 a b = some true) (ha : VR ρ a a') (hb : VR ρ b b') : Instr.sameBits (n + 1) b' a' = true := by
  have := eq1_VR h ha hb
  unfold eq1 at this
  split at this
  · rename_i k x j y
    cases hk : Nat.beq (kno k) (kno j) with
    | false => rw [hk] at this; simp at this
    | true =>
      rw [hk] at this
      have := kno_inj k j hk
      subst this
      rw [sameBits_succ]
      simp_all
  · rw [sameBits_succ]; simp_all
  · rename_i x y
    rw [sameBits_succ]
    injection this with this
    show (_ == _) = true
    rw [bytes_eq]
    have := bytes_beq _ _ this
    subst this
    rw [beqs_eq]; simp
  · cases this
theorem eqR_bits (n : Nat) : ∀ {xs ys : List Value}, eqR xs ys = some true → xs.length = ys.length ∧ (ys.zip xs).all (fun (x, y) => Instr.sameBits (n + 1) x y) = true
  | [], [], h => ⟨rfl, rfl⟩
  | x :: xs, y :: ys, h => by
    unfold eqR at h
    cases e1 : eqInt x y with
    | none => simp only [e1] at h; cases h
    | some p =>
      cases e2 : eqR xs ys with
      | none => simp only [e1, e2] at h; cases h
      | some q =>
        simp only [e1, e2] at h
        injection h with h
        rw [Bool.and_eq_true] at h
        obtain ⟨rfl, rfl⟩ := h
        obtain ⟨g1, g2⟩ := eqR_bits n e2
        refine ⟨by simp [g1], ?_⟩
        simp only [List.zip_cons_cons, List.all_cons, Bool.and_eq_true]
        refine ⟨?_, g2⟩
        unfold eqInt at e1
        split at e1
        · rename_i k a j b
          cases hk : Nat.beq (kno k) (kno j) with
          | false => rw [hk] at e1; cases e1
          | true =>
            rw [hk] at e1
            have := kno_inj k j hk
            subst this
            rw [sameBits_succ]
            simp_all
        · cases e1
theorem eqL_bits {ρ : Rho} (n : Nat) {xs ys xs' ys' : List Value} (e : eqL xs ys = some true) (hx : VRs ρ xs xs') (hy : VRs ρ ys ys') : xs'.length = ys'.length ∧ (ys'.zip xs').all (fun (x, y) => Instr.sameBits (n + 1) x y) = true := eqR_bits n (eqL_VR e hx hy)
section
variable {P : Program} {E : Env} {o : Oper} (ok : EnvOk P E) (qs : EqsOk P E)
include ok qs
theorem keysOf_ok {kt : TypeId} {f : Value → Value → Option Bool} (h : keysOf E kt = some ⟨f⟩) : KeyOk P kt f := by
  unfold keysOf at h
  split at h
  · rename_i k hu
    cases h
    refine ⟨⟨_, und_ok ok hu, .inl fun ρ a b r a' b' e ha hb => ?_⟩, fun ρ a a' e w _ _ => check_plain (und_ok ok hu) (.inl ⟨_, rfl⟩) e a' w 9999, fun ρ a b a' b' e ha hb => ?_⟩
    · unfold eqInt at e
      split at e
      · rename_i k1 x k2 y
        rw [ha.int_inv, hb.int_inv]
        cases hk : Nat.beq (kno k1) (kno k2) with
        | false => rw [hk] at e; simp at e
        | true =>
          rw [hk] at e
          have := kno_inj _ _ hk
          subst this
          simp only [Instr.sameNow, if_true]
          simpa using e
      · cases e
    · refine eq1_bits 9999 ?_ ha hb
      unfold eqInt at e
      split at e
      · exact e
      · cases e
  · rename_i hu
    cases h
    refine ⟨⟨_, und_ok ok hu, .inl fun ρ a b r a' b' e ha hb => ?_⟩, fun ρ a a' e w _ _ => check_plain (und_ok ok hu) (.inr (.inl rfl)) e a' w 9999, fun ρ a b a' b' e ha hb => ?_⟩
    · unfold eqStr at e
      split at e
      · rename_i x y
        rw [ha.string_inv, hb.string_inv]
        simp only [Instr.sameNow]
        rw [← e, bytes_eq]
      · cases e
    · refine eq1_bits 9999 ?_ ha hb
      unfold eqStr at e
      split at e
      · exact e
      · cases e
  · rename_i hu
    cases h
    refine ⟨⟨_, und_ok ok hu, .inl fun ρ a b r a' b' e ha hb => ?_⟩, fun ρ a a' e w _ _ => check_plain (und_ok ok hu) (.inr (.inr rfl)) e a' w 9999, fun ρ a b a' b' e ha hb => ?_⟩
    · unfold eqBool at e
      split at e
      · rename_i x y
        rw [ha.bool_inv, hb.bool_inv]
        exact e
      · cases e
    · refine eq1_bits 9999 ?_ ha hb
      unfold eqBool at e
      split at e
      · exact e
      · cases e
  · rename_i fs hu
    split at h
    · rename_i n hs
      cases h
      have q := qs.ok kt n hs
      refine ⟨⟨_, und_ok ok hu, .inr fun ρ a b r a' b' w e ha hb => ?_⟩, fun ρ a a' e w h1 ha => ?_, fun ρ a b a' b' e ha hb => ?_⟩
      · unfold eqAgg at e
        split at e
        · rename_i xs ys
          cases hl : Nat.beq xs.toList.length n with
          | false => rw [hl] at e; simp at e
          | true =>
            rw [hl] at e
            obtain ⟨xs', rfl, g1⟩ := ha.agg_inv
            obtain ⟨ys', rfl, g2⟩ := hb.agg_inv
            refine ⟨rfl, q.eq xs' ys' r w ?_ (eqL_VR e g1 g2)⟩
            rw [← g1.length]; exact Nat.eq_of_beq_eq_true hl
        · cases e
      · cases a with
        | agg xs =>
          have h1' : (bif Nat.beq xs.toList.length n then eqL xs.toList xs.toList else none).isSome = true := h1
          cases hl : Nat.beq xs.toList.length n with
          | false => rw [hl] at h1'; simp at h1'
          | true =>
            rw [hl] at h1'
            obtain ⟨xs', rfl, g1⟩ := ha.agg_inv
            refine q.key xs' e w ?_ ?_
            · rw [← g1.length]; exact Nat.eq_of_beq_eq_true hl
            · cases hq : eqL xs.toList xs.toList with
              | none => rw [hq] at h1'; simp at h1'
              | some r => rw [eqL_VR hq g1 g1]; rfl
        | _ => simp [eqAgg] at h1
      · unfold eqAgg at e
        split at e
        · rename_i xs ys
          cases hl : Nat.beq xs.toList.length n with
          | false => rw [hl] at e; simp at e
          | true =>
            rw [hl] at e
            obtain ⟨xs', rfl, g1⟩ := ha.agg_inv
            obtain ⟨ys', rfl, g2⟩ := hb.agg_inv
            obtain ⟨h1, h2⟩ := eqL_bits 9998 e g1 g2
            rw [show (10000 : Nat) = 9999 + 1 from rfl, sameBits_succ]
            simp only [Bool.and_eq_true, beq_iff_eq]
            refine ⟨?_, h2⟩
            rw [← Array.length_toList, ← Array.length_toList, h1]
        · cases e
    · cases h
  · cases h
end
/-- What the search for a key comes to. -/
theorem findKey_some {f : Value → Value → Option Bool} {q : Value} {yes : Nat → Entry → R} {no : R} {L : List (FV × Heap)} :
    ∀ {es : List Entry} {j : Nat}, (List.rec (motive := fun _ => Nat → R) (fun _ => no) (fun e _ ih i => match f q e.key with | some true => yes i e | some false => ih (Nat.succ i) | none => none) es j : R) = some L →
      (∃ i e, es[i]? = some e ∧ f q e.key = some true ∧ (∀ m e', m < i → es[m]? = some e' → f q e'.key = some false) ∧ yes (j + i) e = some L) ∨
      ((∀ (m : Nat) e', es[m]? = some e' → f q e'.key = some false) ∧ no = some L)
  | [], j, h => .inr ⟨fun m e' hm => by simp at hm, h⟩
  | e :: es, j, h => by
    simp only [] at h
    cases hf : f q e.key with
    | none => simp only [hf] at h; cases h
    | some b =>
      cases b with
      | true =>
        simp only [hf] at h
        exact .inl ⟨0, e, rfl, hf, fun m e' hm => by omega, h⟩
      | false =>
        simp only [hf] at h
        rcases findKey_some (es := es) (j := j + 1) h with ⟨i, e1, h1, h2, h3, h4⟩ | ⟨h1, h2⟩
        · refine .inl ⟨i + 1, e1, by simpa using h1, h2, fun m e' hm he => ?_, by rw [← h4]; congr 1; omega⟩
          cases m with
          | zero => simp at he; subst he; exact hf
          | succ m => exact h3 m e' (by omega) (by simpa using he)
        · refine .inr ⟨fun m e' he => ?_, h2⟩
          cases m with
          | zero => simp at he; subst he; exact hf
          | succ m => exact h1 m e' (by simpa using he)
theorem All2.get {α β : Type} {r : α → β → Prop} : ∀ {as : List α} {bs : List β} (_ : All2 r as bs) (i : Nat) (a : α), as[i]? = some a → ∃ b, bs[i]? = some b ∧ r a b
  | _, _, .nil, i, a, h => by simp at h
  | _, _, .cons h hs, 0, a, e => by simp at e; subst e; exact ⟨_, rfl, h⟩
  | _, _, .cons h hs, i + 1, a, e => by simp at e; exact All2.get hs i a e
theorem All2.get' {α β : Type} {r : α → β → Prop} : ∀ {as : List α} {bs : List β} (_ : All2 r as bs) (i : Nat) (b : β), bs[i]? = some b → ∃ a, as[i]? = some a ∧ r a b
  | _, _, .nil, i, a, h => by simp at h
  | _, _, .cons h hs, 0, a, e => by simp at e; subst e; exact ⟨_, rfl, h⟩
  | _, _, .cons h hs, i + 1, a, e => by simp at e; exact All2.get' hs i a e
theorem findNow_yes {d : TypeDesc} {k : Value} : ∀ (es : List MapEntry) (j i : Nat) (e : MapEntry), es[i]? = some e → Instr.sameNow d k e.key = some true → (∀ m e', m < i → es[m]? = some e' → Instr.sameNow d k e'.key = some false) →
    Instr.findNow d k es j = some (some (j + i, e.val))
  | [], j, i, e, h, _, _ => by simp at h
  | x :: es, j, 0, e, h, h1, _ => by simp at h; subst h; simp [Instr.findNow, h1]
  | x :: es, j, i + 1, e, h, h1, h2 => by
    have h0 := h2 0 x (by omega) rfl
    simp only [Instr.findNow, h0]
    rw [findNow_yes es (j + 1) i e (by simpa using h) h1 fun m e' hm he => h2 (m + 1) e' (by omega) (by simpa using he)]
    congr 3; omega
theorem findNow_no {d : TypeDesc} {k : Value} : ∀ (es : List MapEntry) (j : Nat), (∀ (m : Nat) e', es[m]? = some e' → Instr.sameNow d k e'.key = some false) → Instr.findNow d k es j = some none
  | [], j, _ => rfl
  | x :: es, j, h => by
    have h0 := h 0 x rfl
    simp only [Instr.findNow, h0]
    exact findNow_no es (j + 1) fun m e' he => h (m + 1) e' (by simpa using he)
theorem findAsk_yes {P : Program} {kt : TypeId} {k : Value} {w : World} : ∀ (es : List MapEntry) (j i : Nat) (e : MapEntry), es[i]? = some e → (Op.equal kt k e.key).run P w = .ok true w → (∀ m e', m < i → es[m]? = some e' → (Op.equal kt k e'.key).run P w = .ok false w) →
    (Instr.findAsking kt k es j).run P w = .ok (some (j + i, e.val)) w
  | [], j, i, e, h, _, _ => by simp at h
  | x :: es, j, 0, e, h, h1, _ => by simp at h; subst h; simp [Instr.findAsking, h1]
  | x :: es, j, i + 1, e, h, h1, h2 => by
    have h0 := h2 0 x (by omega) rfl
    simp only [Instr.findAsking, Sem.run_bind, h0, Result.andThen_ok, Bool.false_eq_true, if_false]
    rw [findAsk_yes es (j + 1) i e (by simpa using h) h1 fun m e' hm he => h2 (m + 1) e' (by omega) (by simpa using he)]
    congr 3; omega
theorem findAsk_no {P : Program} {kt : TypeId} {k : Value} {w : World} : ∀ (es : List MapEntry) (j : Nat), (∀ (m : Nat) e', es[m]? = some e' → (Op.equal kt k e'.key).run P w = .ok false w) →
    (Instr.findAsking kt k es j).run P w = .ok none w
  | [], j, _ => rfl
  | x :: es, j, h => by
    have h0 := h 0 x rfl
    simp only [Instr.findAsking, Sem.run_bind, h0, Result.andThen_ok, Bool.false_eq_true, if_false]
    exact findAsk_no es (j + 1) fun m e' he => h (m + 1) e' (by simpa using he)
/-- The model's search answers the same. -/
theorem findKey_yes {P : Program} {kt : TypeId} {f : Value → Value → Option Bool} (ko : KeyOk P kt f) {ρ : Rho} {q q' : Value} (hq : VR ρ q q') {es : List Entry} {es' : List MapEntry} (he : All2 (EntR ρ) es es')
    {i : Nat} {e : Entry} (h1 : es[i]? = some e) (h2 : f q e.key = some true) (h3 : ∀ m e', m < i → es[m]? = some e' → f q e'.key = some false) (w : World) :
    ∃ e', es'[i]? = some e' ∧ EntR ρ e e' ∧ (Instr.findKey kt q' es').run P w = .ok (some (i, e'.val)) w := by
  obtain ⟨e', g1, g2⟩ := he.get i e h1
  refine ⟨e', g1, g2, ?_⟩
  obtain ⟨d, hd, hm⟩ := ko.und
  unfold Instr.findKey
  simp only [Sem.run_bind, run_underlying hd, Result.andThen_ok]
  rcases hm with hm | hm
  · rw [findNow_yes es' 0 i e' g1 (hm ρ _ _ _ _ _ h2 hq g2.key) fun m e1 hlt he1 => by
      obtain ⟨a, b1, b2⟩ := he.get' m e1 he1
      exact hm ρ _ _ _ _ _ (h3 m a hlt b1) hq b2.key]
    simp
  · have hnone : Instr.findNow d q' es' 0 = none := by
      cases es' with
      | nil => simp at g1
      | cons x xs =>
        obtain ⟨a, b1, b2⟩ := he.get' 0 x rfl
        have : Instr.sameNow d q' x.key = none := by
          cases i with
          | zero =>
            simp at g1; subst g1
            exact (hm ρ _ _ _ _ _ w h2 hq g2.key).1
          | succ i => exact (hm ρ _ _ _ _ _ w (h3 0 a (by omega) b1) hq b2.key).1
        simp [Instr.findNow, this]
    rw [hnone]
    have := findAsk_yes (P := P) (kt := kt) (k := q') (w := w) es' 0 i e' g1 (hm ρ _ _ _ _ _ w h2 hq g2.key).2 fun m e1 hlt he1 => by
      obtain ⟨a, b1, b2⟩ := he.get' m e1 he1
      exact (hm ρ _ _ _ _ _ w (h3 m a hlt b1) hq b2.key).2
    simpa using this
theorem findKey_no {P : Program} {kt : TypeId} {f : Value → Value → Option Bool} (ko : KeyOk P kt f) {ρ : Rho} {q q' : Value} (hq : VR ρ q q') {es : List Entry} {es' : List MapEntry} (he : All2 (EntR ρ) es es')
    (h3 : ∀ (m : Nat) e', es[m]? = some e' → f q e'.key = some false) (w : World) : (Instr.findKey kt q' es').run P w = .ok none w := by
  obtain ⟨d, hd, hm⟩ := ko.und
  unfold Instr.findKey
  simp only [Sem.run_bind, run_underlying hd, Result.andThen_ok]
  rcases hm with hm | hm
  · rw [findNow_no es' 0 fun m e1 he1 => by
      obtain ⟨a, b1, b2⟩ := he.get' m e1 he1
      exact hm ρ _ _ _ _ _ (h3 m a b1) hq b2.key]
    rfl
  · cases es' with
    | nil => rfl
    | cons x xs =>
      obtain ⟨a, b1, b2⟩ := he.get' 0 x rfl
      have : Instr.sameNow d q' x.key = none := (hm ρ _ _ _ _ _ w (h3 0 a b1) hq b2.key).1
      have hnone : Instr.findNow d q' (x :: xs) 0 = none := by simp [Instr.findNow, this]
      rw [hnone]
      exact findAsk_no (P := P) (kt := kt) (k := q') (w := w) (x :: xs) 0 fun m e1 he1 => by
        obtain ⟨a, b1, b2⟩ := he.get' m e1 he1
        exact (hm ρ _ _ _ _ _ w (h3 m a b1) hq b2.key).2
end Go.FX
namespace Go.FX
variable [Sym]
section
variable {P : Program} {E : Env} {o : Oper} (ok : EnvOk P E) (qs : EqsOk P E)
theorem entriesOf_some {h : Heap} {v : Value} {c : List Entry → R} {L : List (FV × Heap)} (e : entriesOf h v c = some L) :
    ∃ es, c es = some L ∧ ∀ ρ (w : World) v', HRs ρ h w → VR ρ v v' → ∃ es' : Array MapEntry, All2 (EntR ρ) es es'.toList ∧
      (match v' with | .map none => es' = #[] | .map (some r) => ∃ cl, w.heap[r]? = some (.map es' cl) | _ => False) := by
  unfold entriesOf at e
  split at e
  · refine ⟨_, e, fun ρ w v' hr hv => ?_⟩
    cases hv
    exact ⟨#[], .nil, rfl⟩
  · rename_i r
    split at e
    · rename_i es cl hk
      refine ⟨_, e, fun ρ w v' hr hv => ?_⟩
      cases hv with
      | map hm =>
        obtain ⟨i, es', g1, g2, g3⟩ := map_at hr hm hk
        exact ⟨es', g3, _, g2⟩
    · cases e
  · cases e
include ok qs in
theorem lookup_read {t : TypeId} {m x : Operand} {b : Bool} (ho : o.op = .lookup t m x b) : ReadS P (lookupOp E t (opd m) (opd x) b).g o := by
  show ReadS P (match E.und t with
    | some (.map kt e) => (match keysOf E kt, E.zeroV e with
      | some ⟨f⟩, some z => (⟨fun _ tm h k => asO ((opd m).f tm) fun mv => known ((opd x).f tm) fun q => Bool.rec none
          (entriesOf h mv fun es => findKey f (FV.v q) es
            (fun _ en => k (bif b then .o (.tuple ⟨[en.val, .bool true]⟩) else ofV en.val) h)
            (k (bif b then .o (.tuple ⟨[z, .bool false]⟩) else ofV z) h)) ((f (FV.v q) (FV.v q)).isSome)⟩ : COp)
      | _, _ => noOp)
    | _ => noOp).g o
  split
  · rename_i kt et hu
    split
    · rename_i f z hk hz
      obtain ⟨hz1, hz2⟩ := zeroV_ok ok hz
      have ko := keysOf_ok ok qs hk
      intro r tm h k L e
      obtain ⟨mv, e1, e2⟩ := asO_some e
      obtain ⟨e3, e4⟩ := known_some e2
      obtain ⟨e5, e6⟩ := rec_true e4
      obtain ⟨es, e7, e8⟩ := entriesOf_some e6
      rw [opd_f] at e1 e3
      rw [opd_f] at e5 e7
      have run : ∀ (a : Act) (w : World) (es' : Array MapEntry) (r : Option (Nat × Value)), a.eval m = a.eval m → (match a.eval m with | .map none => es' = #[] | .map (some r) => ∃ cl, w.heap[r]? = some (.map es' cl) | _ => False) →
          (Instr.checkKey es'.isEmpty 10000 kt (a.eval x)).run P w = .ok () w → (Instr.findKey kt (a.eval x) es'.toList).run P w = .ok r w →
          Does P o a w (if b then .tuple #[(match r with | some (_, v) => v | none => z), .bool r.isSome] else (match r with | some (_, v) => v | none => z)) w := by
        intro a w es' r _ hm hc hf
        refine does_v (s := Instr.lookup t (a.eval m) (a.eval x) b) (by unfold execOp; rw [ho]) ?_
        unfold Instr.lookup
        simp only [Sem.run_bind, run_und ok hu, Result.andThen_ok]
        cases hmv : a.eval m with
        | map q =>
          rw [hmv] at hm
          cases q with
          | none =>
            simp only [] at hm
            subst hm
            have hf' : (Instr.findKey kt (a.eval x) []).run P w = .ok r w := hf
            show ((Instr.checkKey (Array.isEmpty #[]) 10000 kt (a.eval x) >>= fun _ => Instr.findKey kt (a.eval x) [] >>= fun r => (match r with | some (_, v) => pure (if b then Value.tuple #[v, .bool true] else v) | none => do let z ← zeroValue et; pure (if b then Value.tuple #[z, .bool false] else z) : Sem Value)).run P w) = _
            rw [Sem.run_bind, hc, Result.andThen_ok, Sem.run_bind, hf', Result.andThen_ok]
            cases r with
            | none => simp only [Sem.run_bind, hz1, Result.andThen_ok, Sem.run_pure]; cases b <;> rfl
            | some p => obtain ⟨i, v⟩ := p; simp only [Sem.run_pure, Result.andThen_ok]; cases b <;> rfl
          | some q =>
            simp only [] at hm
            obtain ⟨cl, hm⟩ := hm
            simp only [Sem.run_bind, getObj_run (P := P) hm (by simp), Sem.run_pure, Result.andThen_ok, hc, hf]
            cases r with
            | none => simp only [Sem.run_bind, hz1, Result.andThen_ok, Sem.run_pure]; cases b <;> rfl
            | some p => obtain ⟨i, v⟩ := p; simp only [Sem.run_pure, Result.andThen_ok]; cases b <;> rfl
        | _ => rw [hmv] at hm; exact hm.elim
      rcases findKey_some e7 with ⟨i, en, q1, q2, q3, q4⟩ | ⟨q1, q2⟩
      · refine ⟨_, q4, fun ρ a w ht hr => ?_⟩
        have hm := ht.ev m; rw [e1] at hm
        have hx := (ht.ev x).known_inv e3
        obtain ⟨es', g1, g2⟩ := e8 ρ w _ hr hm.o_inv
        obtain ⟨e', g3, g4, g5⟩ := findKey_yes ko hx g1 q1 q2 q3 w
        refine ⟨_, run a w es' _ rfl g2 (ko.key ρ _ _ _ w e5 hx) g5, ?_⟩
        cases b with
        | true => exact VR.tuple (.cons g4.val (.cons (.bool _) .nil))
        | false => exact .ofV g4.val
      · refine ⟨_, q2, fun ρ a w ht hr => ?_⟩
        have hm := ht.ev m; rw [e1] at hm
        have hx := (ht.ev x).known_inv e3
        obtain ⟨es', g1, g2⟩ := e8 ρ w _ hr hm.o_inv
        have g5 := findKey_no ko hx g1 q1 w
        refine ⟨_, run a w es' _ rfl g2 (ko.key ρ _ _ _ w e5 hx) g5, ?_⟩
        cases b with
        | true => exact VR.tuple (.cons (VR.closed 6 _ hz2) (.cons (.bool _) .nil))
        | false => exact .ofV (VR.closed 6 _ hz2)
    · exact noOp_read P o
  · exact noOp_read P o

/-! Slices. -/

/-- An operand that may be lacking. -/
def OR (ρ : Rho) : Option FV → Option Value → Prop
  | none, none => True
  | some x, some v => FVR ρ x v
  | _, _ => False
theorem bound_some {v : Option FV} {d : Nat} {c : Nat → R} {L : List (FV × Heap)} (h : bound v d c = some L) :
    ∃ n, c n = some L ∧ (v = none ∧ n = d ∨ ∃ k, v = some (.i k (.ofNat n))) := by
  unfold bound at h
  split at h
  · exact ⟨d, h, .inl ⟨rfl, rfl⟩⟩
  · obtain ⟨k, n, e, h⟩ := asNat_some h
    exact ⟨n, h, .inr ⟨k, by rw [e]⟩⟩
theorem bounds_some {n cap : Nat} {lo hi mx : Option FV} {c : Nat → Nat → Nat → R} {L : List (FV × Heap)} (h : bounds n cap lo hi mx c = some L) :
    ∃ l u m, c l u m = some L ∧ l ≤ u ∧ u ≤ m ∧ m ≤ cap ∧
      (mx = none ∧ m = cap ∨ ∃ k, mx = some (.i k (.ofNat m))) ∧ (hi = none ∧ u = n ∨ ∃ k, hi = some (.i k (.ofNat u))) ∧ (lo = none ∧ l = 0 ∨ ∃ k, lo = some (.i k (.ofNat l))) := by
  unfold bounds at h
  obtain ⟨m, h, m1⟩ := bound_some h
  obtain ⟨h1, h⟩ := rec_true h
  obtain ⟨u, h, m2⟩ := bound_some h
  obtain ⟨h2, h⟩ := rec_true h
  obtain ⟨l, h, m3⟩ := bound_some h
  obtain ⟨h3, h⟩ := rec_true h
  exact ⟨l, u, m, h, Nat.le_of_ble_eq_true h3, Nat.le_of_ble_eq_true h2, Nat.le_of_ble_eq_true h1, m1, m2, m3⟩
theorem sliceBound_run {k : IntKind} {n y : Nat} {code : BoundsCode} {w : World} (h : n ≤ y) : (Instr.sliceBound (.int k (.ofNat n)) y code).run P w = .ok n w := by
  unfold Instr.sliceBound
  simp only [Sem.run_bind, asIntOf, Sem.run_pure, Result.andThen_ok]
  rw [if_pos ⟨by rw [Int.ofNat_eq_natCast]; omega, by rw [Int.ofNat_eq_natCast]; omega⟩]
  rfl
/-- The real bounds of a slice whose capacity may be greater. -/
theorem sliceBounds_run {s : Bool} {n cap cap' : Nat} {lo hi mx : Option FV} {lo' hi' mx' : Option Value} {l u m : Nat} {ρ : Rho} {w : World} (hc : cap ≤ cap')
    (hlu : l ≤ u) (hum : u ≤ m) (hm : m ≤ cap) (hmi : mx = none ∨ hi ≠ none)
    (m1 : mx = none ∧ m = cap ∨ ∃ k, mx = some (.i k (.ofNat m))) (m2 : hi = none ∧ u = n ∨ ∃ k, hi = some (.i k (.ofNat u))) (m3 : lo = none ∧ l = 0 ∨ ∃ k, lo = some (.i k (.ofNat l)))
    (r1 : OR ρ mx mx')
    (r2 : OR ρ hi hi')
    (r3 : OR ρ lo lo') :
    (Instr.sliceBounds s n cap' lo' hi' mx').run P w = .ok (l, u, if mx.isSome then m else cap') w := by
  have f1 : ∀ {x : Option FV} {x' : Option Value} {q : Nat}, (∃ k, x = some (.i k (.ofNat q))) → OR ρ x x' → ∃ k, x' = some (.int k (.ofNat q)) := by
    rintro x x' q ⟨k, rfl⟩ hx
    cases x' with
    | none => exact hx.elim
    | some v => have hx' : FVR ρ (.i k (.ofNat q)) v := hx; exact ⟨k, by rw [hx'.i_inv]⟩
  have f0 : ∀ {x' : Option Value}, OR ρ none x' → x' = none := by
    intro x' hx
    cases x' with
    | none => rfl
    | some v => exact hx.elim
  unfold Instr.sliceBounds
  rcases m1 with ⟨rfl, m1⟩ | m1
  · have := f0 r1; subst this
    rcases m2 with ⟨rfl, m2⟩ | m2
    · have := f0 r2; subst this
      rcases m3 with ⟨rfl, m3⟩ | m3
      · have := f0 r3; subst this; subst m2 m3; rfl
      · obtain ⟨k, rfl⟩ := f1 m3 r3
        obtain ⟨k', rfl⟩ := m3
        subst m2
        simp only [Sem.run_bind, Sem.run_pure, Result.andThen_ok, sliceBound_run (P := P) hlu]; rfl
    · obtain ⟨k2, e2⟩ := f1 m2 r2
      subst e2
      obtain ⟨k2', rfl⟩ := m2
      rcases m3 with ⟨rfl, m3⟩ | m3
      · have := f0 r3; subst this; subst m3
        simp only [Sem.run_bind, Sem.run_pure, Result.andThen_ok, sliceBound_run (P := P) (show u ≤ cap' from by omega)]; rfl
      · obtain ⟨k, rfl⟩ := f1 m3 r3
        obtain ⟨k', rfl⟩ := m3
        simp only [Sem.run_bind, Sem.run_pure, Result.andThen_ok, sliceBound_run (P := P) (show u ≤ cap' from by omega), sliceBound_run (P := P) hlu]; rfl
  · obtain ⟨k1, e1⟩ := f1 m1 r1
    subst e1
    obtain ⟨k1', rfl⟩ := m1
    rcases m2 with ⟨rfl, m2⟩ | m2
    · rcases hmi with h | h
      · cases h
      · exact absurd rfl h
    · obtain ⟨k2, e2⟩ := f1 m2 r2
      subst e2
      obtain ⟨k2', rfl⟩ := m2
      rcases m3 with ⟨rfl, m3⟩ | m3
      · have := f0 r3; subst this; subst m3
        simp only [Sem.run_bind, Sem.run_pure, Result.andThen_ok, sliceBound_run (P := P) (show m ≤ cap' from by omega), sliceBound_run (P := P) hum]; rfl
      · obtain ⟨k, rfl⟩ := f1 m3 r3
        obtain ⟨k', rfl⟩ := m3
        simp only [Sem.run_bind, Sem.run_pure, Result.andThen_ok, sliceBound_run (P := P) (show m ≤ cap' from by omega), sliceBound_run (P := P) hum, sliceBound_run (P := P) hlu]; rfl
theorem oopd_f (x : Option Operand) (tm : Tm) : (oopd x).f tm = x.map (ev tm) := by
  cases x with
  | none => rfl
  | some x => show some ((opd x).f tm) = _; rw [opd_f]; rfl
theorem oev {ρ : Rho} {tm : Tm} {a : Act} (ht : TR ρ tm a.tmps) (x : Option Operand) : OR ρ (x.map (ev tm)) (x.map a.eval) := by
  cases x with
  | none => trivial
  | some x => exact ht.ev x
/-- A slice of a slice. -/
theorem SR.sub {ρ : Rho} {k o n c : Nat} {a' : Addr} {c' l u m z : Nat} {mx : Bool} (h : SR ρ ⟨k, o, none⟩ a' n c c') (hlu : l ≤ u) (hum : u ≤ m) (hm : m ≤ c) (hmx : mx = false → m = c)
    (hz : l = 0 ∨ mx = true ∨ ∀ b s i, ρ k = .at b s i → i.loose = true → i.esz = z) :
    SR ρ ⟨k, o + l * z, none⟩ (if (if mx then m else c') = l then a' else a'.add (l * z)) (u - l) (m - l) ((if mx then m else c') - l) := by
  obtain ⟨h1, h2, hnf, h3⟩ := h
  have hmm : m ≤ (if mx then m else c') := by cases mx <;> simp <;> omega
  refine ⟨by omega, by omega, hnf, ?_⟩
  rcases h3 with h3 | h3
  · left
    have : (if mx then m else c') = 0 := by cases mx <;> simp <;> omega
    omega
  · by_cases hl : (if mx then m else c') = l
    · left; omega
    · rw [if_neg hl]
      right
      cases hk : ρ k with
      | fresh => simp only [hk] at h3
      | dead => trivial
      | «at» b s i =>
        simp only [hk] at h3 ⊢
        obtain ⟨_, h4, h5⟩ := h3
        refine ⟨trivial, ?_, ?_⟩
        · rw [h4, add_none]; congr 1; omega
        · cases mx with
          | true => left; simp
          | false =>
            have := hmx rfl; subst this
            simp only [Bool.false_eq_true, if_false]
            rcases h5 with h5 | ⟨h5, h6, h7⟩
            · left; omega
            · by_cases hl0 : l = 0
              · subst hl0; right; simp at *; exact ⟨h5, h6, h7⟩
              · have hzz : i.esz = z := by
                  rcases hz with hz | hz | hz
                  · exact absurd hz hl0
                  · cases hz
                  · exact hz b s i hk h5
                right
                refine ⟨h5, ?_, ?_⟩
                · rw [← h6, hzz, Nat.sub_mul]
                  have : l * z ≤ m * z := Nat.mul_le_mul_right z (by omega)
                  omega
                · rw [hzz] at h7 ⊢
                  rw [Nat.sub_mul]
                  have : l * z ≤ c' * z := Nat.mul_le_mul_right z (by omega)
                  omega
end
end Go.FX
namespace Go.FX
variable [Sym]
theorem extract_take (s : ByteArray) (a b : Nat) : (s.extract a b) = ⟨⟨(s.data.toList.drop a).take (b - a)⟩⟩ := by
  apply ByteArray.ext
  rw [ByteArray.data_extract]
  apply Array.ext'
  simp
section
variable {P : Program} {E : Env} {o : Oper} (ok : EnvOk P E) (qs : EqsOk P E)
include ok in
theorem slice_read {t : TypeId} {x : Operand} {lo hi mx : Option Operand} (ho : o.op = .slice t x lo hi mx) : ReadS P (sliceOp E t (opd x) lo hi mx).g o := by
  have hexec : ∀ a : Act, execOp a.eval o = (do pure (Next.value (← Instr.sliceAt t (a.eval x) (lo.map a.eval) (hi.map a.eval) (mx.map a.eval))) : Sem Next) := fun a => by unfold execOp; rw [ho]
  show ReadS P (bif mx.isSome && hi.isNone then noOp else
    (match E.und t with
    | some .string => bif mx.isSome then noOp else ⟨fun _ tm h k => asO ((opd x).f tm) fun v => match v with
      | .string s => bounds s.data.toList.length s.data.toList.length ((oopd lo).f tm) ((oopd hi).f tm) none fun a b _ => k (.o (.string ⟨⟨(s.data.toList.drop a).take (Nat.sub b a)⟩⟩)) h
      | _ => none⟩
    | some (.slice e) => (match E.size e with
      | some z => ⟨fun _ tm h k => known ((opd x).f tm) fun v => match FV.v v with
        | .slice none 0 0 => bounds 0 0 ((oopd lo).f tm) ((oopd hi).f tm) ((oopd mx).f tm) fun _ _ _ => k (.o (.slice none 0 0)) h
        | .slice (some ⟨b, o, none⟩) n c => bounds n c ((oopd lo).f tm) ((oopd hi).f tm) ((oopd mx).f tm) fun l h' m =>
          Bool.rec (withCells h b fun _ _ y lo => Bool.rec (k (.s b (Nat.add o (Nat.mul l z)) (Nat.sub h' l) (Nat.sub m l)) h) (Bool.rec none (k (.s b (Nat.add o (Nat.mul l z)) (Nat.sub h' l) (Nat.sub m l)) h) (Nat.beq y z)) lo)
            (k (.s b (Nat.add o (Nat.mul l z)) (Nat.sub h' l) (Nat.sub m l)) h) (Nat.beq l 0 || mx.isSome)
        | _ => none⟩
      | none => noOp)
    | some (.array n e) => (match E.size e with
      | some z => ⟨fun _ tm h k => asPtr ((opd x).f tm) fun b o => bounds n n ((oopd lo).f tm) ((oopd hi).f tm) ((oopd mx).f tm) fun l h' m => k (.s b (Nat.add o (Nat.mul l z)) (Nat.sub h' l) (Nat.sub m l)) h⟩
      | none => noOp)
    | _ => noOp) : COp).g o
  cases hmx : (mx.isSome && hi.isNone) with
  | true => exact noOp_read P o
  | false =>
  have hmi : ∀ tm, mx.map (ev tm) = none ∨ hi.map (ev tm) ≠ none := fun tm => by
    cases mx <;> cases hi <;> simp at hmx ⊢
  rw [cond_false]
  split
  · rename_i hu
    cases hmn : mx.isSome with
    | true => exact noOp_read P o
    | false =>
      have hmn' : mx = none := by cases mx <;> simp at hmn ⊢
      subst hmn'
      intro r tm h k L e
      rw [cond_false] at e
      obtain ⟨v, e1, e2⟩ := asO_some e
      rw [opd_f] at e1
      split at e2
      · rename_i s
        obtain ⟨l, u, m, b1, b2, b3, b4, b5, b6, b7⟩ := bounds_some e2
        rw [oopd_f] at b6 b7
        refine ⟨_, b1, fun ρ a w ht _ => ?_⟩
        have hx := ht.ev x; rw [e1] at hx
        have hx' := hx.o_inv.string_inv
        have hsz : s.data.toList.length = s.size := Array.length_toList
        rw [hsz] at b4 b5 b6
        refine ⟨.string (s.extract l u), does_v (hexec a) ?_, ?_⟩
        · rw [hx']
          unfold Instr.sliceAt
          simp only [Sem.run_bind, run_und ok hu, Result.andThen_ok]
          unfold Instr.slice
          have hb := sliceBounds_run (P := P) (s := false) (w := w) (Nat.le_refl s.size) b2 b3 b4 (.inl rfl) b5 b6 b7 (show OR ρ none none from trivial) (oev ht hi) (oev ht lo)
          have hg : underlying t = underlying t := rfl
          simp only [Sem.run_bind, run_und ok hu, Result.andThen_ok, Option.map_none]
          simp only [Option.isSome_none, Bool.false_eq_true, if_false, Sem.run_bind, Sem.run_pure, Result.andThen_ok]
          rw [hb]
          rfl
        · show VR ρ (.string _) (.string _)
          rw [extract_take]; exact .string _
      · cases e2
  · rename_i et hu
    split
    · rename_i z hz
      intro r tm h k L e
      dsimp only at e
      obtain ⟨e1, e2⟩ := known_some e
      rw [opd_f] at e1 e2
      split at e2
      · rename_i hv
        obtain ⟨l, u, m, b1, b2, b3, b4, b5, b6, b7⟩ := bounds_some e2
        rw [oopd_f] at b5 b6 b7
        have hm0 : m = 0 := by omega
        have hu0 : u = 0 := by omega
        have hl0 : l = 0 := by omega
        subst hm0 hu0 hl0
        refine ⟨_, b1, fun ρ a w ht _ => ?_⟩
        have hx := (ht.ev x).known_inv e1
        rw [hv] at hx
        have hx' : a.eval x = .slice none 0 0 := by generalize a.eval x = y at hx; cases hx; rfl
        refine ⟨.slice none 0 0, does_v (hexec a) ?_, .of .sliceNil⟩
        rw [hx']
        unfold Instr.sliceAt
        simp only [Sem.run_bind, run_und ok hu, Result.andThen_ok]
        unfold Instr.slice
        have hb := sliceBounds_run (P := P) (s := true) (w := w) (Nat.le_refl 0) b2 b3 b4 (hmi tm) b5 b6 b7 (oev ht mx) (oev ht hi) (oev ht lo)
        simp only [Sem.run_bind, run_und ok hu, Result.andThen_ok]
        rw [hb]
        simp only [Result.andThen_ok, run_size ok hz, Sem.run_pure]
        cases (mx.map (ev tm)).isSome <;> rfl
      · rename_i b q n c hv
        obtain ⟨l, u, m, b1, b2, b3, b4, b5, b6, b7⟩ := bounds_some e2
        rw [oopd_f] at b5 b6 b7
        have key : k (.s b (Nat.add q (Nat.mul l z)) (Nat.sub u l) (Nat.sub m l)) h = some L ∧ ∀ ρ w, HRs ρ h w → l = 0 ∨ mx.isSome = true ∨ ∀ b' s i, ρ b = .at b' s i → i.loose = true → i.esz = z := by
          cases hc : (Nat.beq l 0 || mx.isSome) with
          | true =>
            rw [hc] at b1
            refine ⟨b1, fun ρ w _ => ?_⟩
            rw [Bool.or_eq_true] at hc
            rcases hc with hc | hc
            · exact .inl (Nat.eq_of_beq_eq_true hc)
            · exact .inr (.inl hc)
          | false =>
            rw [hc] at b1
            obtain ⟨vs, t', y, lo', g1, g2⟩ := withCells_some b1
            cases lo' with
            | false =>
              refine ⟨g2, fun ρ w hr => .inr (.inr fun b' s i hb hl => ?_)⟩
              obtain ⟨ob, q2, q3⟩ := hr.at g1 hb
              obtain ⟨_, _, _, _, _, q4, _⟩ := q3
              subst q4
              cases hl
            | true =>
              obtain ⟨g3, g4⟩ := rec_true g2
              refine ⟨g4, fun ρ w hr => .inr (.inr fun b' s i hb hl => ?_)⟩
              obtain ⟨ob, q2, q3⟩ := hr.at g1 hb
              obtain ⟨_, _, _, _, _, q4, _⟩ := q3
              subst q4
              exact Nat.eq_of_beq_eq_true g3
        refine ⟨_, key.1, fun ρ a w ht hr => ?_⟩
        have hx := (ht.ev x).known_inv e1
        rw [hv] at hx
        cases hax : a.eval x with
        | slice p n' c' =>
          rw [hax] at hx
          cases hx with
          | slice hs =>
            rename_i a'
            have hcc : c ≤ c' := hs.2.1
            have hb := sliceBounds_run (P := P) (s := true) (w := w) hcc b2 b3 b4 (hmi tm) b5 b6 b7 (oev ht mx) (oev ht hi) (oev ht lo)
            have hms : (mx.map (ev tm)).isSome = mx.isSome := by cases mx <;> rfl
            rw [hms] at hb
            refine ⟨_, does_v (hexec a) ?_, .of (.slice (hs.sub (mx := mx.isSome) b2 b3 b4 ?_ (key.2 ρ w hr)))⟩
            · rw [hax]
              unfold Instr.sliceAt
              simp only [Sem.run_bind, run_und ok hu, Result.andThen_ok]
              unfold Instr.slice
              simp only [Sem.run_bind, run_und ok hu, Result.andThen_ok]
              rw [hb]
              simp only [Result.andThen_ok, run_size ok hz, Sem.run_pure]
              congr 1
              cases mx.isSome <;> simp only [if_true, Bool.false_eq_true, if_false] <;> split <;> rfl
            · intro hn
              rcases b5 with b5 | ⟨kk, b5⟩
              · exact b5.2
              · cases mx <;> simp at hn b5
        | _ => rw [hax] at hx; cases hx
      · cases e2
    · exact noOp_read P o
  · rename_i n et hu
    split
    · rename_i z hz
      intro r tm h k L e
      obtain ⟨b, q, e1, e2⟩ := asPtr_some e
      rw [opd_f] at e1
      obtain ⟨l, u, m, b1, b2, b3, b4, b5, b6, b7⟩ := bounds_some e2
      rw [oopd_f] at b5 b6 b7
      refine ⟨_, b1, fun ρ a w ht _ => ?_⟩
      have hx := ht.ev x; rw [e1] at hx
      obtain ⟨a', g1, g2⟩ := hx.p_inv
      have hb := sliceBounds_run (P := P) (s := false) (w := w) (Nat.le_refl n) b2 b3 b4 (hmi tm) b5 b6 b7 (oev ht mx) (oev ht hi) (oev ht lo)
      have hm : (if (mx.map (ev tm)).isSome = true then m else n) = m := by
        rcases b5 with ⟨b5, b5'⟩ | ⟨kk, b5⟩
        · rw [b5]; exact b5'.symm
        · rw [b5]; rfl
      rw [hm] at hb
      refine ⟨.slice (some (if m = l then a' else a'.add (l * z))) (u - l) (m - l), does_v (hexec a) ?_, .of (.slice ⟨Nat.sub_le_sub_right b3 l, Nat.le_refl _, fun e => by unfold AR at g2; simp only [] at e; simp only [e] at g2, ?_⟩)⟩
      · rw [g1]
        unfold Instr.sliceAt
        simp only [Sem.run_bind, run_und ok hu, Result.andThen_ok, Instr.sureAddr, Sem.run_pure]
        rw [hb]
        simp only [Result.andThen_ok, run_size ok hz, Sem.run_pure]
      · by_cases hml : m = l
        · left; subst hml; simp
        · right
          have := g2.add (l * z)
          unfold AR at this
          rw [if_neg hml]
          cases hk : ρ b with
          | fresh => simp only [hk] at this
          | dead => trivial
          | «at» x y i => simp only [hk] at this ⊢; exact ⟨trivial, this.2, .inl rfl⟩
    · exact noOp_read P o
  · exact noOp_read P o
end
end Go.FX
namespace Go.FX
variable [Sym]
theorem lastN_some {l : List Nat} {c : Nat → R} {L : List (FV × Heap)} (e : lastN l c = some L) : ∃ n, l.getLast? = some n ∧ c n = some L := by
  unfold lastN at e
  split at e
  · rename_i n hn; exact ⟨n, hn, e⟩
  · cases e
theorem findBorn_some {n : Nat} : ∀ {es : List Entry} {c : Entry → R} {L : List (FV × Heap)}, findBorn n es c = some L →
    ∃ e, c e = some L ∧ ∀ ρ (es' : List MapEntry), All2 (EntR ρ) es es' → ∃ e', es'.find? (·.born == n) = some e' ∧ EntR ρ e e'
  | [], c, L, h => by cases h
  | x :: xs, c, L, h => by
    have h' : (Bool.rec (findBorn n xs c) (c x) (Nat.beq x.born n) : R) = some L := h
    cases hb : Nat.beq x.born n with
    | true =>
      rw [hb] at h'
      refine ⟨x, h', fun ρ es' ha => ?_⟩
      cases ha with
      | cons hx hs =>
        rename_i y ys
        refine ⟨y, ?_, hx⟩
        have hn := Nat.eq_of_beq_eq_true hb
        rw [List.find?_cons_of_pos (by rw [← hx.born, hn]; simp)]
    | false =>
      rw [hb] at h'
      obtain ⟨e, h1, h2⟩ := findBorn_some h'
      refine ⟨e, h1, fun ρ es' ha => ?_⟩
      cases ha with
      | cons hx hs =>
        rename_i y ys
        obtain ⟨e', g1, g2⟩ := h2 ρ ys hs
        refine ⟨e', ?_, g2⟩
        rw [List.find?_cons_of_neg (by rw [← hx.born]; intro hc; rw [beq_iff] at hb; simp at hb hc; exact hb hc)]
        exact g1
section
variable {P : Program} {E : Env} {o : Oper} (ok : EnvOk P E) (qs : EqsOk P E)
theorem entry_read {x : Operand} (ho : o.op = .entry x) : ReadS P (entryOp (opd x)).g o := by
  intro r tm h k L e
  have e' : asPtr ((opd x).f tm) (fun r o => Bool.rec none (match Heap.get h r with
      | some (.mIter (some m) _ seen st) => (match Heap.get h m with
        | some (.map es c) => Bool.rec none (lastN seen fun s => findBorn s es fun e => k (.o (.tuple ⟨[e.key, e.val]⟩)) h) (Nat.beq c st)
        | _ => none)
      | _ => none) (Nat.beq o 0)) = some L := e
  obtain ⟨b, q, e1, e2⟩ := asPtr_some e'
  rw [opd_f] at e1
  obtain ⟨e3, e4⟩ := rec_true e2
  have hq := Nat.eq_of_beq_eq_true e3
  subst hq
  split at e4
  · rename_i m since seen st hb
    split at e4
    · rename_i es c hm
      obtain ⟨e5, e6⟩ := rec_true e4
      have hc := Nat.eq_of_beq_eq_true e5
      subst hc
      obtain ⟨s, e7, e8⟩ := lastN_some e6
      obtain ⟨en, e9, e10⟩ := findBorn_some e8
      refine ⟨_, e9, fun ρ a w ht hr => ?_⟩
      have hx := ht.ev x; rw [e1] at hx
      obtain ⟨a', g1, g2⟩ := hx.p_inv
      have hf : ρ b ≠ .fresh := fun e => by unfold AR at g2; simp only [e] at g2
      obtain ⟨b', s', i, ob, q1, q2, q3⟩ := hr.live hb hf
      unfold AR at g2
      simp only [q1] at g2
      obtain ⟨hs0, m', q4, r', q5, q6⟩ := q3
      subst hs0 q5
      obtain ⟨i2, es', g3, g4, g5⟩ := map_at hr q6 hm
      obtain ⟨e', g6, g7⟩ := e10 ρ _ g5
      refine ⟨.tuple #[e'.key, e'.val], does_v (s := Instr.entry (.pointer (some ⟨b', 0, none⟩))) (by unfold execOp; rw [ho]; simp only [g1, g2.2]) ?_, VR.tuple (.cons g7.key (.cons g7.val .nil))⟩
      unfold Instr.entry
      rw [q4] at q2
      have hback : (seen.toArray).back? = some s := by simp [e7]
      have hfind : es'.find? (·.born == s) = some e' := by rw [← Array.find?_toList]; exact g6
      simp only [Sem.run_bind, getObj_run (P := P) q2 (by simp), Result.andThen_ok, hback, getObj_run (P := P) g4 (by simp), bne_self_eq_false, Bool.false_eq_true, if_false, Sem.run_pure, hfind]
    · cases e4
  · cases e4

/-! ### Operations that make a block -/

def MakeS (P : Program) (g : FR → Tm → Heap → K → R) (o : Oper) : Prop :=
  ∀ r tm h k L, g r tm h k = some L → ∃ v B, h.nx < 2 ^ dH ∧ k v (h.made B) = some L ∧ ∀ ρ (a : Act) w, TR ρ tm a.tmps →
    ∃ v' ob i dr, Does P o a w v' { w with heap := w.heap.push ob, drawn := dr } ∧ (∀ ρ', Later ρ ρ' → BR ρ' 0 i B ob) ∧ ∀ ρ', ρ' h.nx = .at w.heap.size 0 i → FVR ρ' v v'
theorem noOp_make (P : Program) (o : Oper) : MakeS P noOp.g o := fun _ _ _ _ _ h => absurd h (by simp [noOp])
theorem BR.cells_new {ρ : Rho} {vs : List Value} {c : Array Value} {e : TypeId} {z : Nat} {l : Bool} {ct : TypeId} (h : VRs ρ vs c.toList) :
    BR ρ 0 ⟨l, z, vs.length, c.size⟩ (.cells vs e z l) (.cells c ct (0, 0)) := by
  have hl := h.length
  have hl : vs.length = c.size := by rw [hl]; exact Array.length_toList
  refine ⟨c, ct, 0, 0, rfl, rfl, by rw [hl]; omega, ⟨fun _ j _ => by omega, fun _ _ => Nat.le_refl _⟩, fun j v hj => ?_⟩
  obtain ⟨v', h1, h2⟩ := h.get j v hj
  exact ⟨v', by rw [← Array.getElem?_toList, Nat.zero_add]; exact h1, h2⟩
theorem newObj_run {w : World} (ob : Obj) : (newObj ob).run P w = .ok w.heap.size { w with heap := w.heap.push ob } := rfl
theorem AR.made {ρ : Rho} {n b : Nat} {i : Info} (h : ρ n = .at b 0 i) : AR ρ ⟨n, 0, none⟩ ⟨b, 0, none⟩ := by
  unfold AR; simp [h]
theorem MR.made {ρ : Rho} {n b : Nat} {i : Info} (h : ρ n = .at b 0 i) : MR ρ n b := by
  unfold MR; simp [h]
theorem SR.made {ρ : Rho} {k b n c : Nat} {i : Info} (h : ρ k = .at b 0 i) (hn : n ≤ c) : SR ρ ⟨k, 0, none⟩ ⟨b, 0, none⟩ n c c := by
  refine ⟨hn, Nat.le_refl _, by rw [h]; simp, .inr ?_⟩
  simp [h]
theorem newVar_run {w : World} (t : TypeId) (v : Value) : (newVar t v).run P w = .ok ⟨w.heap.size, 0, none⟩ { w with heap := w.heap.push (.cells v.cells t) } := rfl
theorem newRow_run {w : World} (t : TypeId) (v : Array Value) : (newRow t v).run P w = .ok ⟨w.heap.size, 0, none⟩ { w with heap := w.heap.push (.cells v t) } := rfl
include ok in
theorem alloc_make {t : TypeId} (ho : o.op = .alloc t) : MakeS P (allocOp E t).g o := by
  unfold allocOp
  split
  · rename_i z hz
    obtain ⟨zv, h1, h2, h3⟩ := zero_ok ok hz
    intro r tm h k L e
    dsimp only at e
    obtain ⟨e1, e2⟩ := Heap.new_eq e
    refine ⟨_, _, e1, e2, fun ρ a w ht => ⟨_, .cells zv.cells t, ⟨false, 0, z.length, zv.cells.size⟩, w.drawn, does_v (s := Instr.alloc t true (.tuple #[])) (by unfold execOp; rw [ho]) ?_, fun ρ' _ => BR.cells_new (by rw [h2]; exact h3 ρ'), fun ρ' hn => .of (.ptr (.made hn))⟩⟩
    unfold Instr.alloc
    simp only [Sem.run_bind, h1, Result.andThen_ok, newVar_run, Sem.run_pure]
  · exact noOp_make P o
theorem box_make {t : TypeId} {x : Operand} (ho : o.op = .box t x) : MakeS P (boxOp t (opd x)).g o := by
  intro r tm h k L e
  have e' : cellsOf ((opd x).f tm) (fun cs => Heap.new h (.cells cs t 0 false) fun n h' => k (.p n 0) h') = some L := e
  obtain ⟨cs, e1, e2⟩ := cellsOf_some e'
  obtain ⟨e3, e4⟩ := Heap.new_eq e1
  refine ⟨_, _, e3, e4, fun ρ a w ht => ?_⟩
  have hx := ht.ev x
  rw [opd_f] at e2
  have hc := e2 ρ _ hx
  refine ⟨_, .cells (a.eval x).cells t, ⟨false, 0, cs.length, (a.eval x).cells.size⟩, w.drawn, does_v (s := Instr.box t (a.eval x)) (by unfold execOp; rw [ho]) ?_, fun ρ' hl => BR.cells_new (hc.later hl), fun ρ' hn => .of (.ptr (.made hn))⟩
  unfold Instr.box
  simp only [Sem.run_bind, Result.andThen_ok, newVar_run, Sem.run_pure]
end
end Go.FX
namespace Go.FX
variable [Sym]
theorem zeros_len {zv : List Value} {z : Nat} (hl : zv.length = z) : ∀ n, (zeros zv n).length = n * z
  | 0 => by simp [zeros]
  | n + 1 => by rw [zeros, List.length_append, zeros_len hl n, hl, Nat.succ_mul]; omega
theorem zeros_get {zv : List Value} {z : Nat} (hl : zv.length = z) : ∀ n j, j < n * z → (zeros zv n)[j]? = zv[j % z]?
  | 0, j, h => by simp at h
  | n + 1, j, h => by
    rw [zeros]
    by_cases c : j < z
    · rw [List.getElem?_append_left (by omega), Nat.mod_eq_of_lt c]
    · rw [List.getElem?_append_right (by omega), hl, zeros_get hl n (j - z) (by rw [Nat.succ_mul] at h; omega), ← Nat.mod_eq_sub_mod (by omega)]
theorem zeros_VRs {ρ : Rho} {zv : List Value} (h : VRs ρ zv zv) : ∀ n, VRs ρ (zeros zv n) (zeros zv n)
  | 0 => .nil
  | n + 1 => h.append (zeros_VRs h n)
theorem zeros_row {zero : Array Value} {zv : List Value} {z : Nat} (hz : zero.toList = zv) (hl : zv.length = z) (n : Nat) : ((Array.range (n * z)).map (zero[· % zero.size]!)).toList = zeros zv n := by
  have hs : zero.size = z := by rw [← hl, ← hz]; exact Array.length_toList.symm
  apply List.ext_getElem?
  intro j
  by_cases c : j < n * z
  · rw [zeros_get hl n j c, ← hz]
    have hpos : 0 < z := by
      rcases Nat.eq_zero_or_pos z with e | e
      · rw [e] at c; simp at c
      · exact e
    have hm : j % z < zero.size := by rw [hs]; exact Nat.mod_lt _ hpos
    rw [Array.getElem?_toList] at *
    simp [c, hs]
    rw [getElem!_pos zero _ hm, Array.getElem?_eq_getElem hm]
  · rw [List.getElem?_eq_none (by simp; omega), List.getElem?_eq_none (by rw [zeros_len hl]; omega)]
theorem push_modify {α : Type} (xs : Array α) (a : α) (f : α → α) : (xs.push a).modify xs.size f = xs.push (f a) := by
  apply Array.ext
  · simp
  · intro i h1 h2
    simp at h1 h2
    rw [Array.getElem_modify, Array.getElem_push, Array.getElem_push]
    by_cases c : i < xs.size
    · simp [c]; omega
    · have : i = xs.size := by omega
      subst this
      simp
section
variable {P : Program} {E : Env} {o : Oper} (ok : EnvOk P E) (qs : EqsOk P E)
include ok in
theorem makeMap_make {t : TypeId} {x : Option Operand} (ho : o.op = .makeMap t x) : MakeS P (makeMapOp E t x).g o := by
  cases x with
  | none =>
    intro r tm h k L e
    have e' : Heap.new h (.map [] 0) (fun n h' => k (.o (.map (some n))) h') = some L := e
    obtain ⟨e1, e2⟩ := Heap.new_eq e'
    exact ⟨_, _, e1, e2, fun ρ a w ht => ⟨_, .map #[] 0, ⟨false, 0, 0, 0⟩, w.drawn, does_v (s := Instr.makeMap t none) (by unfold execOp; rw [ho]; rfl) rfl, fun ρ' _ => ⟨rfl, #[], rfl, .nil⟩, fun ρ' hn => VR.map (.made hn)⟩⟩
  | some y =>
    show MakeS P (match E.und t, opd y with
      | some (.map _ _), ⟨f⟩ => (⟨fun _ tm h k => asInt (f tm) fun _ _ => Heap.new h (.map [] 0) fun n h' => k (.o (.map (some n))) h'⟩ : COp)
      | _, _ => noOp).g o
    generalize hoy : opd y = oy
    obtain ⟨f⟩ := oy
    split
    · rename_i kt et f' hu hf
      cases hf
      intro r tm h k L e
      dsimp only at e
      obtain ⟨kk, n, e0, e1⟩ := asInt_some e
      obtain ⟨e2, e3⟩ := Heap.new_eq e1
      have hfy : f tm = ev tm y := by rw [← opd_f, hoy]
      rw [hfy] at e0
      refine ⟨_, _, e2, e3, fun ρ a w ht => ?_⟩
      have hy := ht.ev y; rw [e0] at hy
      refine ⟨_, .map #[] 0, ⟨false, 0, 0, 0⟩, w.drawn, does_v (s := Instr.makeMap t (some (.int kk n))) (by unfold execOp; rw [ho]; simp only [Option.map_some, hy.i_inv]) ?_, fun ρ' _ => ⟨rfl, #[], rfl, .nil⟩, fun ρ' hn => VR.map (.made hn)⟩
      unfold Instr.makeMap
      simp only [Sem.run_bind, run_und ok hu, Result.andThen_ok]
      rfl
    · exact noOp_make P o
include ok in
theorem buildSlice_make {t : TypeId} {n : Nat} {ps : Array (Nat × Operand)} (ho : o.op = .buildSlice t n ps) : MakeS P (buildSliceOp E t n ps.toList).g o := by
  unfold buildSliceOp
  split
  · rename_i et hu
    split
    · rename_i z zv hs hz
      split
      · rename_i g hg
        cases hc : (Nat.ble (Nat.mul n z) 65536 && Nat.beq zv.length z) with
        | false => exact noOp_make P o
        | true =>
          rw [Bool.and_eq_true] at hc
          have hle : n * z ≤ 65536 := Nat.le_of_ble_eq_true hc.1
          have hl : zv.length = z := Nat.eq_of_beq_eq_true hc.2
          intro r tm h k L e
          rw [cond_true] at e
          dsimp only at e
          obtain ⟨out, e1, e2⟩ := fill_some hg e
          obtain ⟨e3, e4⟩ := Heap.new_eq e1
          refine ⟨_, _, e3, e4, fun ρ a w ht => ?_⟩
          obtain ⟨zval, hz1, hz2, hz3⟩ := zero_ok ok hz
          have hrow := zeros_row hz2 hl n
          obtain ⟨cs', g1, g2⟩ := e2 ρ a ((Array.range (n * z)).map (zval.cells[· % zval.cells.size]!)) ht (by rw [hrow]; exact zeros_VRs (hz3 ρ) n)
          refine ⟨_, .cells cs' et, ⟨false, z, out.length, cs'.size⟩, w.drawn, does_v (s := Instr.buildSlice t n (ps.map fun (i, x) => (i, a.eval x))) (by unfold execOp; rw [ho]) ?_, fun ρ' hl => BR.cells_new (g2.later hl), fun ρ' hn => .of (.slice (.made hn (Nat.le_refl _)))⟩
          unfold Instr.buildSlice
          simp only [Sem.run_bind, run_und ok hu, Result.andThen_ok, run_size ok hs]
          rw [if_neg (by omega)]
          have hmap : (ps.map fun (p : Nat × Operand) => (p.1, a.eval p.2)).toList = ps.toList.map fun p => (p.1, a.eval p.2) := by simp
          have g1' : Instr.fill (fun i => some (i * z, z)) ((Array.range (n * z)).map (zval.cells[· % zval.cells.size]!)) (ps.map fun (p : Nat × Operand) => (p.1, a.eval p.2)).toList = some cs' := by rw [hmap]; exact g1
          by_cases c : n * z = 0
          · rw [if_pos c]
            have h0 : Array.range (n * z) = #[] := by rw [c]; rfl
            rw [h0] at g1' ⊢
            simp only [Array.map_empty] at g1'
            simp only [Sem.run_bind, Sem.run_pure, Result.andThen_ok, Array.map_empty]
            rw [g1']
            simp only [Sem.run_bind, newRow_run, Result.andThen_ok, Sem.run_pure]
          · rw [if_neg c]
            simp only [Sem.run_bind, Sem.run_pure, Result.andThen_ok, hz1]
            rw [g1']
            simp only [Sem.run_bind, newRow_run, Result.andThen_ok, Sem.run_pure]
      · exact noOp_make P o
    · exact noOp_make P o
  · exact noOp_make P o
end
end Go.FX
namespace Go.FX
variable [Sym]
section
variable {P : Program} {E : Env} {o : Oper} (ok : EnvOk P E) (qs : EqsOk P E)
theorem and_true' {a b : Bool} (h : (a && b) = true) : a = true ∧ b = true := by rw [Bool.and_eq_true] at h; exact h
theorem wrap_small {n : Nat} (h : n ≤ 65536) : IntKind.i64.wrap (Int.ofNat n) = Int.ofNat n := by
  unfold IntKind.wrap
  simp [IntKind.signed, IntKind.bits]
  omega
theorem asInt_run {k : IntKind} {n : Int} {w : World} : (Go.asInt (.int k n)).run P w = .ok n w := rfl
theorem askRoom_run {n : Nat} {w : World} : (askRoom n).run P w = .ok () w := by unfold askRoom; split <;> rfl
include ok in
theorem makeSlice_make {t : TypeId} {x y : Operand} (ho : o.op = .makeSlice t x y) : MakeS P (makeSliceOp E t (opd x) (opd y)).g o := by
  show MakeS P (match E.und t with
    | some (.slice e) => (match T.get E.tt e, E.zero e with
      | some i, some zv => bif Nat.ble i.bytes 65536 && Nat.beq zv.length i.size then
          (⟨fun _ tm h k => asNat ((opd x).f tm) fun n => asNat ((opd y).f tm) fun m => Bool.rec none (Heap.new h (.cells (zeros zv m) e i.size false) fun b h' => k (.s b 0 n m) h') (Nat.ble n m && Nat.ble m 65536)⟩ : COp) else noOp
      | _, _ => noOp)
    | _ => noOp).g o
  split
  · rename_i et hu
    split
    · rename_i i zv hi hz
      cases hc : (Nat.ble i.bytes 65536 && Nat.beq zv.length i.size) with
      | false => exact noOp_make P o
      | true =>
        obtain ⟨hc1, hc2⟩ := and_true' hc
        have hby : i.bytes ≤ 65536 := Nat.le_of_ble_eq_true hc1
        have hl : zv.length = i.size := Nat.eq_of_beq_eq_true hc2
        intro r tm h k L e
        rw [cond_true] at e
        dsimp only at e
        obtain ⟨k1, n, e1, e2⟩ := asNat_some e
        obtain ⟨k2, m, e3, e4⟩ := asNat_some e2
        obtain ⟨e5, e6⟩ := rec_true e4
        obtain ⟨e7, e8⟩ := Heap.new_eq e6
        obtain ⟨h1, h2⟩ := and_true' e5
        have hnm : n ≤ m := Nat.le_of_ble_eq_true h1
        have hm : m ≤ 65536 := Nat.le_of_ble_eq_true h2
        rw [opd_f] at e1 e3
        refine ⟨_, _, e7, e8, fun ρ a w ht => ?_⟩
        have hx := ht.ev x; rw [e1] at hx
        have hy := ht.ev y; rw [e3] at hy
        obtain ⟨zval, hz1, hz2, hz3⟩ := zero_ok ok hz
        have hrow := zeros_row hz2 hl m
        have hs : E.size et = some i.size := by unfold Env.size; rw [hi]
        refine ⟨_, .cells ((Array.range (m * i.size)).map (zval.cells[· % zval.cells.size]!)) et, ⟨false, i.size, (zeros zv m).length, ((Array.range (m * i.size)).map (zval.cells[· % zval.cells.size]!)).size⟩, w.drawn, does_v (s := Instr.makeSlice t (.int k1 (.ofNat n)) (.int k2 (.ofNat m))) (by unfold execOp; rw [ho]; simp only [hx.i_inv, hy.i_inv]) ?_, fun ρ' _ => BR.cells_new (by rw [hrow]; exact zeros_VRs (hz3 ρ') m), fun ρ' hn => .of (.slice (.made hn hnm))⟩
        unfold Instr.makeSlice
        simp only [Sem.run_bind, run_und ok hu, Result.andThen_ok, asInt_run, Sem.run_pure, run_info ok hi, wrap_small hm, wrap_small (show n ≤ 65536 by omega)]
        have hbm : (i.bytes : Int) * Int.ofNat m ≤ 2 ^ 48 := by
          have : i.bytes * m ≤ 65536 * 65536 := Nat.mul_le_mul hby hm
          have h2 : ((i.bytes * m : Nat) : Int) ≤ 4294967296 := by omega
          rw [Int.ofNat_eq_natCast, ← Int.natCast_mul]
          omega
        have hno : (decide (Int.ofNat m < 0) || decide ((i.bytes : Int) * Int.ofNat m > 2 ^ 48) || decide (Int.ofNat n < 0) || decide (Int.ofNat n > Int.ofNat m)) = false := by
          simp only [Int.ofNat_eq_natCast] at *
          simp only [Bool.or_eq_false_iff, decide_eq_false_iff_not]
          omega
        rw [hno]
        simp only [Bool.false_eq_true, if_false, Sem.run_bind, askRoom_run, Result.andThen_ok, run_size ok hs, Int.ofNat_eq_natCast, Int.toNat_natCast]
        by_cases c : m * i.size = 0
        · rw [if_pos c]
          have h0 : Array.range (m * i.size) = #[] := by rw [c]; rfl
          rw [h0]
          simp only [Sem.run_bind, Sem.run_pure, Result.andThen_ok, Array.map_empty, newRow_run]
        · rw [if_neg c]
          simp only [Sem.run_bind, Sem.run_pure, Result.andThen_ok, hz1, newRow_run]
    · exact noOp_make P o
  · exact noOp_make P o
/-- The bytes of a string, in a new row. -/
theorem stringToBytes_run {e : TypeId} {s : ByteArray} {w : World} : ∃ cap c, s.size ≤ cap ∧ c.size = cap ∧ (∀ (j : Nat) v, (s.data.toList.map fun b => Value.int .u8 (.ofNat b.toNat))[j]? = some v → c[j]? = some v) ∧
    (Conv.stringToBytes e s).run P w = .ok (.slice (some ⟨w.heap.size, 0, none⟩) s.size cap) { w with heap := w.heap.push (.cells c e (cap, cap + 1)), drawn := w.drawn + 1 } := by
  let cap := Question.cut (.appendCap s.size 0 e) (w.tape w.drawn (.appendCap s.size 0 e))
  have hcap : s.size ≤ cap := by show s.size ≤ s.size + _; omega
  let c : Array Value := (s.data.map fun b => Value.int .u8 b.toNat) ++ Array.replicate (cap - s.size) (.int .u8 0)
  have hsz : s.data.size = s.size := rfl
  have hc : c.size = cap := by simp [c]; omega
  refine ⟨cap, c, hcap, hc, fun j v hj => ?_, ?_⟩
  · rw [List.getElem?_map] at hj
    cases hb : s.data.toList[j]? with
    | none => rw [hb] at hj; cases hj
    | some b =>
      rw [hb] at hj
      cases hj
      have hlt : j < s.data.toList.length := (List.getElem?_eq_some_iff.1 hb).1
      have hlt' : j < s.data.size := by rw [← Array.length_toList]; exact hlt
      show ((s.data.map fun b => Value.int .u8 b.toNat) ++ Array.replicate (cap - s.size) (.int .u8 0))[j]? = _
      rw [Array.getElem?_append_left (by simpa using hlt'), Array.getElem?_map]
      rw [Array.getElem?_toList] at hb
      rw [hb]; rfl
  · unfold Conv.stringToBytes
    have h1 : ∀ w', (choose (.appendCap s.size 0 e)).run P w' = .ok (Question.cut (.appendCap s.size 0 e) (w'.tape w'.drawn (.appendCap s.size 0 e))) { w' with drawn := w'.drawn + 1 } := fun w' => rfl
    rw [Sem.run_bind, h1, Result.andThen_ok]
    show ((do
      let a ← newRow e c
      markStringish a
      pure (Value.slice (some a) s.size cap)).run P _) = _
    rw [Sem.run_bind, newRow_run, Result.andThen_ok]
    have h2 : (markStringish ⟨w.heap.size, 0, none⟩).run P { w with heap := w.heap.push (.cells c e), drawn := w.drawn + 1 } = .ok () { w with heap := w.heap.push (.cells c e (cap, cap + 1)), drawn := w.drawn + 1 } := by
      unfold markStringish
      have h3 : (shape w.heap.size).run P { w with heap := w.heap.push (.cells c e), drawn := w.drawn + 1 } = .ok (some (e, cap)) { w with heap := w.heap.push (.cells c e), drawn := w.drawn + 1 } := by
        show Result.ok (World.shape? _ w.heap.size) _ = _
        unfold World.shape?
        simp [hc]
      rw [Sem.run_bind, h3, Result.andThen_ok]
      show Result.ok () (World.freeze _ _ 1) = _
      unfold World.freeze
      simp only [Nat.one_ne_zero, if_false]
      rw [push_modify]
      rfl
    rw [Sem.run_bind, h2, Result.andThen_ok]
    rfl
include ok in
theorem bytes_make {s d : TypeId} {e : TypeId} {x : Operand} (hs : E.und s ≠ none) (hd : E.und d = some (.slice e)) (ho : o.op = .convert s d x) : MakeS P (bytesOp E e (opd x)).g o := by
  show MakeS P (match E.und e with
    | some (.int .u8) => (⟨fun _ tm h k => asO ((opd x).f tm) fun v => match v with
      | .string s => Bool.rec none (Heap.new h (.cells (s.data.toList.map fun (b : UInt8) => Value.int .u8 (.ofNat b.toNat)) e 1 true) fun b h' => k (.s b 0 s.data.toList.length s.data.toList.length) h') (Nat.ble s.data.toList.length 65536)
      | _ => none⟩ : COp)
    | _ => noOp).g o
  split
  · rename_i hu
    intro r tm h k L e'
    dsimp only at e'
    obtain ⟨v, e1, e2⟩ := asO_some e'
    rw [opd_f] at e1
    split at e2
    · rename_i str
      obtain ⟨e3, e4⟩ := rec_true e2
      obtain ⟨e5, e6⟩ := Heap.new_eq e4
      refine ⟨_, _, e5, e6, fun ρ a w ht => ?_⟩
      have hx := ht.ev x; rw [e1] at hx
      obtain ⟨cap, c, g1, g2, g3, g4⟩ := stringToBytes_run (P := P) (e := e) (s := str) (w := w)
      have hlen : str.data.toList.length = str.size := Array.length_toList
      refine ⟨.slice (some ⟨w.heap.size, 0, none⟩) str.size cap, .cells c e (cap, cap + 1), ⟨true, 1, (str.data.toList.map fun b => Value.int .u8 (.ofNat b.toNat)).length, c.size⟩, w.drawn + 1, does_v (s := convert s d (.string str)) (by unfold execOp; rw [ho]; simp only [hx.o_inv.string_inv]) ?_, fun ρ' _ => ?_, fun ρ' hn => ?_⟩
      · unfold convert
        cases hus : E.und s with
        | none => exact absurd hus hs
        | some ds =>
          simp only [Sem.run_bind, run_und ok hus, run_und ok hd, Result.andThen_ok, run_und ok hu]
          exact g4
      · refine ⟨c, e, cap, cap + 1, rfl, rfl, by rw [List.length_map, hlen]; omega, ⟨fun j hj => by omega, fun c => (by cases c)⟩, fun j v hj => ⟨v, by rw [Nat.zero_add]; exact g3 j v hj, ?_⟩⟩
        rw [List.getElem?_map] at hj
        cases hb : str.data.toList[j]? with
        | none => rw [hb] at hj; cases hj
        | some b => rw [hb] at hj; cases hj; exact .int _ _
      · show VR ρ' (.slice (some ⟨h.nx, 0, none⟩) str.data.toList.length str.data.toList.length) _
        rw [List.length_map, hlen] at hn
        rw [hlen]
        refine .slice ⟨Nat.le_refl _, g1, by rw [hn]; simp, .inr ?_⟩
        simp only [hn]
        exact ⟨trivial, trivial, .inr ⟨trivial, by omega, by omega⟩⟩
    · cases e2
  · exact noOp_make P o
include ok in
theorem range_make {t : TypeId} {x : Operand} (hu : E.und t = some .string) (ho : o.op = .range t x) : MakeS P (rangeOp E t (opd x)).g o := by
  have he : rangeOp E t (opd x) = ⟨fun _ tm h k => asO ((opd x).f tm) fun v => match v with | .string s => Heap.new h (.sIter s 0) fun n h' => k (.p n 0) h' | _ => none⟩ := by
    show (match E.und t with
    | some .string => (⟨fun _ tm h k => asO ((opd x).f tm) fun v => match v with | .string s => Heap.new h (.sIter s 0) fun n h' => k (.p n 0) h' | _ => none⟩ : COp)
    | some (.map _ _) => ⟨fun _ tm h k => asO ((opd x).f tm) fun v => match v with
      | .map none => Heap.new h (.mIter none 0 [] 0) fun n h' => k (.p n 0) h'
      | .map (some m) => (match Heap.get h m with | some (.map _ c) => Heap.new h (.mIter (some m) c [] c) fun n h' => k (.p n 0) h' | _ => none)
      | _ => none⟩
    | _ => noOp) = _
    rw [hu]
  rw [he]
  intro r tm h k L e'
  dsimp only at e'
  obtain ⟨v, e1, e2⟩ := asO_some e'
  rw [opd_f] at e1
  split at e2
  · rename_i str
    obtain ⟨e5, e6⟩ := Heap.new_eq e2
    refine ⟨_, _, e5, e6, fun ρ a w ht => ?_⟩
    have hx := ht.ev x; rw [e1] at hx
    refine ⟨_, .stringIter str 0, ⟨false, 0, 0, 0⟩, w.drawn, does_v (s := Instr.range t (.string str)) (by unfold execOp; rw [ho]; simp only [hx.o_inv.string_inv]) ?_, fun ρ' _ => ⟨rfl, rfl⟩, fun ρ' hn => .of (.ptr (.made hn))⟩
    unfold Instr.range
    simp only [Sem.run_bind, run_und ok hu, Result.andThen_ok]
    rfl
  · cases e2
end
end Go.FX
