/- The tables of this program, for the quick machine. -/
import Derived.Test.YtphfoenmfkibdaaGreatDoorMG
import Derived.Test.YtphfoenmfkibdaaGreatDoorProg
import Derived.KernelRfl
import Derived.Laws.StructEq
import Derived.ChangeKeysEq
set_option linter.unusedSectionVars false
set_option linter.unusedVariables false
set_option linter.unusedSimpArgs false
set_option maxRecDepth 1000000
namespace Go.FX
open Go.Proofs
section
variable [Sym]
/-! ### The tables of the program -/
theorem build_from {α : Type} : ∀ (l : List α) (i : Nat) (t : T α), T.wf 10 t → i + l.length ≤ 1024 →
    ∀ k, T.get (List.rec (motive := fun _ => Nat → T α → T α) (fun _ t => t) (fun x _ ih i t => ih (Nat.succ i) (T.set 10 t i (.leaf x))) l i t : T α) k = if i ≤ k ∧ k < i + l.length then l[k - i]? else T.get t k
  | [], i, t, hw, hl, k => by
    rw [if_neg (by simp)]
  | x :: l, i, t, hw, hl, k => by
    simp only [List.length_cons] at hl
    have hx : ∀ d, d = 0 → T.wf d (.leaf x : T α) := fun d e => by subst e; trivial
    have hs := T.wf_set hx 10 t i hw
    have h1 := build_from l (i + 1) (T.set 10 t i (.leaf x)) hs (by omega) k
    show T.get (List.rec (motive := fun _ => Nat → T α → T α) (fun _ t => t) (fun x _ ih i t => ih (Nat.succ i) (T.set 10 t i (.leaf x))) l (i + 1) (T.set 10 t i (.leaf x)) : T α) k = _
    rw [h1, T.get_set (.leaf x) (leaf_none x) 10 t i k hw (by omega), leaf_some]
    simp only [List.length_cons]
    by_cases c : i + 1 ≤ k ∧ k < i + 1 + l.length
    · rw [if_pos c, if_pos (by omega), show k - i = (k - (i + 1)) + 1 from by omega]
      rfl
    · rw [if_neg c]
      by_cases c2 : k = i
      · subst c2
        rw [if_pos rfl, if_pos (by omega)]
        simp
      · rw [if_neg c2, if_neg (by omega)]
theorem get_build {α : Type} (l : List α) (hl : l.length ≤ 1024) (k : Nat) : T.get (build l) k = l[k]? := by
  have h := build_from l 0 .nil trivial (by omega) k
  have h' : T.get (build l) k = if 0 ≤ k ∧ k < 0 + l.length then l[k - 0]? else T.get .nil k := h
  rw [h']
  by_cases c : k < l.length
  · rw [if_pos ⟨Nat.zero_le _, by omega⟩]; rfl
  · rw [if_neg (by omega), List.getElem?_eq_none (by omega)]; rfl
noncomputable def tt : T TypeInfo := build Tryz.prog.types.toList
noncomputable def ft : T Func := build Tryz.prog.funcs.toList
noncomputable def E0 : Env := { tt := tt, ft := ft, lo := 9, mg := [323, 333], eqT := [(327, 2), (65, 2), (149, 2), (169, 32)] }
theorem types_len : Tryz.prog.types.toList.length ≤ 1024 := of_decide_eq_true (by kernel_rfl)
theorem funcs_len : Tryz.prog.funcs.toList.length ≤ 1024 := of_decide_eq_true (by kernel_rfl)
theorem env_ok : EnvOk Tryz.prog E0 where
  tt t i h := by
    have h' : T.get (build Tryz.prog.types.toList) t = some i := h
    rw [get_build _ types_len] at h'
    rw [Array.getElem?_toList] at h'
    unfold Tables.info?
    rw [if_pos (lt_of_get h')]
    exact h'
  ft f fn h := by
    have h' : T.get (build Tryz.prog.funcs.toList) f = some fn := h
    rw [get_build _ funcs_len] at h'
    rw [← Array.getElem?_toList]
    exact h'
  mixed := by kernel_rfl
theorem names_all : (Tryz.prog.funcs.toList.all fun f => decide (f.name ≠ "runtime.NumGoroutine")) = true := by kernel_rfl
theorem names_ok : ∀ f fn, T.get E0.ft f = some fn → fn.name ≠ "runtime.NumGoroutine" := fun f fn h => by
  have h' := (env_ok).ft f fn h
  rw [← Array.getElem?_toList] at h'
  have := List.all_eq_true.1 names_all fn (List.mem_of_getElem? h')
  exact of_decide_eq_true this
end
end Go.FX
namespace Go.FX
open Go.Proofs
section
variable [Sym]
theorem eqInt_some {x y : Value} {b : Bool} (h : eqInt x y = some b) : ∃ k m n, x = .int k m ∧ y = .int k n ∧ b = (m == n) := by
  unfold eqInt at h
  split at h
  · rename_i k m j n
    cases hb : Nat.beq (kno k) (kno j) with
    | false => rw [hb] at h; cases h
    | true =>
      rw [hb, cond_true] at h
      have := kno_inj2 hb
      subst this
      cases h
      exact ⟨k, m, n, rfl, rfl, rfl⟩
  · cases h
theorem int_field {P : Program} {t : TypeId} {j : IntKind} (hu : P.underlying t = some (.int j)) (d : Nat) (k : IntKind) (m n : Int) (w : World) : (Op.equalIn (d + 1) t (.int k m) (.int k n)).run P w = .ok (m == n) w := by
  simp only [Op.equalIn, Sem.run_bind, run_underlying hu, Result.andThen_ok]
  simp
theorem int_part {P : Program} {t : TypeId} {j : IntKind} (hu : P.underlying t = some (.int j)) (cs : Array Value) (off : Nat) (v : Value) (hv : cs[off]? = some v) (w : World) : (part t cs off).run P w = .ok v w := by
  unfold part isAgg
  simp only [Sem.run_bind, run_underlying hu, Result.andThen_ok, hv]
  simp
theorem pair_ok {P : Program} {t : TypeId} {f g : Field} {j1 j2 : IntKind} (hu : P.underlying t = some (.struct #[f, g])) (hp : P.stoodInHeld t = false) (hgt : P.eqGuardType P.depth t = false)
    (hf : P.underlying f.type = some (.int j1)) (hg : P.underlying g.type = some (.int j2)) (of : f.offset = 0) (og : g.offset = 1) (nf : f.name ≠ "_") (ng : g.name ≠ "_") : EqOk P t 2 where
  guard := hgt
  eq xs ys b w hl e := by
    obtain ⟨xs⟩ := xs
    obtain ⟨ys⟩ := ys
    match xs, hl with
    | [x0, x1], _ =>
      have hfo : P.fieldsOf t = #[f, g] := by unfold Program.fieldsOf; rw [hu]
      match ys, e with
      | [y0, y1], e =>
        have e' : (match eqInt x0 y0, (match eqInt x1 y1, some true with | some a, some b => some (a && b) | _, _ => none : Option Bool) with | some a, some b => some (a && b) | _, _ => none : Option Bool) = some b := e
        cases h0 : eqInt x0 y0 with
        | none => rw [h0] at e'; cases e'
        | some b0 =>
          cases h1 : eqInt x1 y1 with
          | none => rw [h0, h1] at e'; cases e'
          | some b1 =>
            rw [h0, h1] at e'
            obtain ⟨k0, m0, n0, rfl, rfl, rfl⟩ := eqInt_some h0
            obtain ⟨k1, m1, n1, rfl, rfl, rfl⟩ := eqInt_some h1
            unfold Op.equal
            rw [show Op.maxDepth = 9998 + 1 + 1 from rfl, run_equalIn_struct w _ t _ _ (by rw [hfo]; exact hu) hp, hfo]
            simp only [Op.eqFields, nf, ng, ne_eq, not_false_eq_true, if_true, Sem.run_bind, of, og]
            rw [int_part hf _ 0 (.int k0 m0) rfl, Result.andThen_ok, int_part hf _ 0 (.int k0 n0) rfl, Result.andThen_ok, int_field hf, Result.andThen_ok]
            cases hb0 : (m0 == n0) with
            | false => rw [hb0] at e'; cases e'; simp
            | true =>
              rw [hb0] at e'
              simp only [Bool.not_true, Bool.false_eq_true, if_false, Sem.run_bind]
              rw [int_part hg _ 1 (.int k1 m1) rfl, Result.andThen_ok, int_part hg _ 1 (.int k1 n1) rfl, Result.andThen_ok, int_field hg, Result.andThen_ok]
              cases hb1 : (m1 == n1) with
              | false => rw [hb1] at e'; cases e'; simp
              | true => rw [hb1] at e'; cases e'; simp
      | [], e => cases e
      | [y0], e =>
        have e' : (match eqInt x0 y0, (none : Option Bool) with | some a, some b => some (a && b) | _, _ => none : Option Bool) = some b := e
        cases h0 : eqInt x0 y0 <;> rw [h0] at e' <;> cases e'
      | y0 :: y1 :: y2 :: r, e =>
        have e' : (match eqInt x0 y0, (match eqInt x1 y1, (none : Option Bool) with | some a, some b => some (a && b) | _, _ => none : Option Bool) with | some a, some b => some (a && b) | _, _ => none : Option Bool) = some b := e
        cases h0 : eqInt x0 y0 <;> cases h1 : eqInt x1 y1 <;> rw [h0, h1] at e' <;> cases e'
  key xs e w hl h := by
    obtain ⟨xs⟩ := xs
    match xs, hl with
    | [x0, x1], _ =>
      unfold Instr.checkKey
      simp only [Sem.run_bind, run_underlying hu, Result.andThen_ok]
      rw [← Array.forIn_toList]
      have key1 : ∀ t' j v, P.underlying t' = some (.int j) → (Instr.checkKey e 9999 t' v).run P w = .ok () w := fun t' j v h => by
        unfold Instr.checkKey
        simp only [Sem.run_bind, run_underlying h, Result.andThen_ok]
        rfl
      simp only [List.forIn_cons, List.forIn_nil, nf, ng, ne_eq, not_false_eq_true, if_true, Sem.run_bind, of, og]
      rw [int_part hf _ 0 x0 rfl, Result.andThen_ok, key1 _ _ _ hf]
      simp only [Result.andThen_ok, Sem.run_pure, Sem.run_bind]
      rw [int_part hg _ 1 x1 rfl, Result.andThen_ok, key1 _ _ _ hg]
      simp
theorem drop_head {α : Type} {l us : List α} {u : α} {j : Nat} (h : l.drop j = u :: us) : l[j]? = some u ∧ l.drop (j + 1) = us := by
  have h1 : (l.drop j)[0]? = some u := by rw [h]; rfl
  rw [List.getElem?_drop] at h1
  refine ⟨by simpa using h1, ?_⟩
  have : l.drop (j + 1) = (l.drop j).drop 1 := by rw [List.drop_drop]
  rw [this, h]; rfl
theorem items_ok {P : Program} {e : TypeId} {k : IntKind} (he : P.underlying e = some (.int k)) (d : Nat) (xs ys : Array Value) (w : World) : ∀ (us vs : List Value) (j : Nat) (b : Bool), xs.toList.drop j = us → ys.toList.drop j = vs → eqR us vs = some b →
    (Op.eqItems (d + 1) e 1 xs ys (List.range' j us.length)).run P w = .ok b w
  | [], [], j, b, _, _, h => by cases h; rfl
  | [], _ :: _, j, b, _, _, h => by cases h
  | _ :: _, [], j, b, _, _, h => by cases h
  | u :: us, v :: vs, j, b, hu, hv, h => by
    have h' : (match eqInt u v, eqR us vs with | some a, some b => some (a && b) | _, _ => none : Option Bool) = some b := h
    obtain ⟨u1, u2⟩ := drop_head hu
    obtain ⟨v1, v2⟩ := drop_head hv
    cases e1 : eqInt u v with
    | none => rw [e1] at h'; cases h'
    | some c =>
      cases e2 : eqR us vs with
      | none => rw [e1, e2] at h'; cases h'
      | some r =>
        rw [e1, e2] at h'
        obtain ⟨k1, m, n, rfl, rfl, rfl⟩ := eqInt_some e1
        rw [List.length_cons, List.range'_succ]
        simp only [Op.eqItems, Sem.run_bind, Nat.mul_one]
        rw [int_part he xs j (.int k1 m) (by rw [← Array.getElem?_toList]; exact u1), Result.andThen_ok, int_part he ys j (.int k1 n) (by rw [← Array.getElem?_toList]; exact v1), Result.andThen_ok, int_field he, Result.andThen_ok]
        cases hb : (m == n) with
        | false => rw [hb] at h'; cases h'; simp
        | true =>
          rw [hb] at h'
          simp only [Bool.not_true, Bool.false_eq_true, if_false]
          rw [items_ok he d xs ys w us vs (j + 1) r u2 v2 e2]
          cases h'; simp
theorem arr_ok {P : Program} {t e : TypeId} {k : IntKind} {n : Nat} {i : TypeInfo} (hu : P.underlying t = some (.array n e)) (hgt : P.eqGuardType P.depth t = false) (he : P.underlying e = some (.int k)) (hi : P.info? e = some i) (hc : P.cellsOf e = 1) : EqOk P t n where
  guard := hgt
  eq xs ys b w hl h := by
    unfold Op.equal
    rw [show Op.maxDepth = 9998 + 1 + 1 from rfl, run_equalIn_array w _ xs ys hu hi, hc]
    have := items_ok he 9998 xs ys w xs.toList ys.toList 0 b rfl rfl h
    rw [hl] at this
    rw [List.range_eq_range']
    exact this
  key xs em w hl _ := by
    unfold Instr.checkKey
    simp only [Sem.run_bind, run_underlying hu, Result.andThen_ok]
    have key1 : ∀ v, (Instr.checkKey em 9999 e v).run P w = .ok () w := fun v => by
      unfold Instr.checkKey
      simp only [Sem.run_bind, run_underlying he, Result.andThen_ok]
      rfl
    have hsz := run_sizeOf w hi
    rw [hc] at hsz
    simp only [Std.Legacy.Range.forIn_eq_forIn_range', Std.Legacy.Range.size, Nat.sub_zero, Nat.add_one_sub_one, Nat.div_one]
    have hm : ∀ j ∈ List.range' 0 n, j < xs.size := fun j hj => by
      rw [List.mem_range'] at hj
      obtain ⟨q, q1, q2⟩ := hj
      rw [← Array.length_toList, hl]; omega
    generalize List.range' 0 n = l at hm ⊢
    induction l with
    | nil => rfl
    | cons j l ih =>
      have hlt : j < xs.size := hm j List.mem_cons_self
      simp only [List.forIn_cons, Sem.run_bind, hsz, Result.andThen_ok, Nat.mul_one]
      rw [int_part he xs j xs[j] (Array.getElem?_eq_getElem hlt), Result.andThen_ok, key1]
      simp only [Result.andThen_ok, Sem.run_pure]
      exact ih fun j hj => hm j (List.mem_cons_of_mem _ hj)
theorem eqs_ok : EqsOk Tryz.prog E0 where
  ok t n h := by
    have h' : (bif Nat.beq 327 t then some 2 else bif Nat.beq 65 t then some 2 else bif Nat.beq 149 t then some 2 else bif Nat.beq 169 t then some 32 else none : Option Nat) = some n := h
    cases h1 : Nat.beq 327 t with
    | true =>
      rw [h1] at h'
      cases h'
      have := Nat.eq_of_beq_eq_true h1
      subst this
      exact pair_ok Tryz.underlying327 (by kernel_rfl) (by kernel_rfl) Tryz.underlying3 Tryz.underlying27 rfl rfl (by decide) (by decide)
    | false =>
      cases h2 : Nat.beq 65 t with
      | true =>
        rw [h1, h2] at h'
        cases h'
        have := Nat.eq_of_beq_eq_true h2
        subst this
        exact pair_ok Tryz.underlying65 (by kernel_rfl) (by kernel_rfl) Tryz.underlying27 Tryz.underlying27 rfl rfl (by decide) (by decide)
      | false =>
        cases h3 : Nat.beq 149 t with
        | true =>
          rw [h1, h2, h3] at h'
          cases h'
          have := Nat.eq_of_beq_eq_true h3
          subst this
          exact pair_ok Tryz.underlying149 (by kernel_rfl) (by kernel_rfl) Tryz.underlying3 Tryz.underlying3 rfl rfl (by decide) (by decide)
        | false =>
          cases h4 : Nat.beq 169 t with
          | true =>
            rw [h1, h2, h3, h4] at h'
            cases h'
            have := Nat.eq_of_beq_eq_true h4
            subst this
            obtain ⟨i, hi⟩ : ∃ i, Tryz.prog.info? 5 = some i := ⟨_, rfl⟩
            exact arr_ok Tryz.underlying169 (by kernel_rfl) Tryz.underlying5 hi (by kernel_rfl)
          | false => rw [h1, h2, h3, h4] at h'; cases h'
end
end Go.FX
