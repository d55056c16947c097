/- The operations of the quick machine that write, sound. -/
import Derived.Test.YtphfoenmfkibdaaGreatDoorMC
import Derived.Laws.IdiomCopy
import Derived.Laws.RangeString
import Derived.Deep.AppendSrc
import Derived.Deep.Upon
set_option linter.unusedSectionVars false
set_option linter.unusedVariables false
set_option linter.unusedSimpArgs false
set_option maxRecDepth 1000000
namespace Go.FX
variable [Sym]
theorem get_over {α : Type} (vs new : List α) (o j : Nat) (h : o + new.length ≤ vs.length) :
    (vs.take o ++ new ++ vs.drop (o + new.length))[j]? = if j < o then vs[j]? else if j < o + new.length then new[j - o]? else vs[j]? := by
  have ht : (vs.take o).length = o := by simp; omega
  by_cases c1 : j < o
  · rw [if_pos c1, List.append_assoc, List.getElem?_append_left (by omega), List.getElem?_take, if_pos c1]
  · rw [if_neg c1]
    by_cases c2 : j < o + new.length
    · rw [if_pos c2, List.append_assoc, List.getElem?_append_right (by omega), ht, List.getElem?_append_left (by omega)]
    · rw [if_neg c2, List.getElem?_append_right (by simp; omega), List.getElem?_drop]
      congr 1
      simp; omega
theorem setCell_heap {w : World} {b o : Nat} {v : Value} {c : Array Value} {ct : TypeId} {f : Nat × Nat} (h : w.heap[b]? = some (.cells c ct f)) (j : Nat) :
    (w.setCell ⟨b, o, none⟩ v).heap[j]? = if j = b then some (.cells (c.setIfInBounds o v) ct f) else w.heap[j]? := by
  unfold World.setCell
  simp only []
  rw [Array.getElem?_modify]
  by_cases e : j = b
  · subst e; simp [h]
  · rw [if_neg (by omega), if_neg e]
theorem setCells_heap (b : Nat) : ∀ (vs : List Value) (o : Nat) (w : World) (c : Array Value) (ct : TypeId) (f : Nat × Nat), w.heap[b]? = some (.cells c ct f) → o + vs.length ≤ c.size →
    ∃ c' : Array Value, c'.toList = c.toList.take o ++ vs ++ c.toList.drop (o + vs.length) ∧ (∀ j, (w.setCells b o vs).heap[j]? = if j = b then some (.cells c' ct f) else w.heap[j]?) ∧
      (w.setCells b o vs).heap.size = w.heap.size ∧ (w.setCells b o vs).os = w.os ∧ (w.setCells b o vs).tape = w.tape ∧ (w.setCells b o vs).output = w.output
  | [], o, w, c, ct, f, h, hl => ⟨c, by simp, fun j => by by_cases e : j = b <;> simp [World.setCells, e, h], rfl, rfl, rfl, rfl⟩
  | v :: r, o, w, c, ct, f, h, hl => by
    simp only [List.length_cons] at hl
    have h1 := setCell_heap (o := o) (v := v) h
    obtain ⟨c', g1, g2, g3, g4, g5, g6⟩ := setCells_heap b r (o + 1) (w.setCell ⟨b, o, none⟩ v) (c.setIfInBounds o v) ct f (by rw [h1, if_pos rfl]) (by simp; omega)
    refine ⟨c', ?_, fun j => ?_, ?_, g4, g5, g6⟩
    · rw [g1, Array.toList_setIfInBounds]
      have hlt : o < c.toList.length := by rw [Array.length_toList]; omega
      have e1 : (c.toList.set o v).take (o + 1) = c.toList.take o ++ [v] := by
        rw [List.take_succ_eq_append_getElem (by simpa using hlt)]
        simp [List.take_set_of_le]
      have e2 : (c.toList.set o v).drop (o + 1 + r.length) = c.toList.drop (o + 1 + r.length) := List.drop_set_of_lt (by omega)
      rw [e1, e2]
      simp only [List.length_cons, List.append_assoc, List.cons_append, List.nil_append]
      rw [show o + (r.length + 1) = o + 1 + r.length from by omega]
    · rw [World.setCells, g2 j]
      by_cases e : j = b
      · rw [if_pos e, if_pos e]
      · rw [if_neg e, if_neg e, h1, if_neg e]
    · rw [World.setCells, g3]
      unfold World.setCell
      simp
theorem flat_one {ρ : Rho} {v v' : Value} (h : VR ρ v v') (hf : flat1 v = true) : v'.oneCell' = true := by
  cases h <;> first | rfl | (exact absurd hf (by simp [flat1]))
theorem flats_one {ρ : Rho} : ∀ {vs vs' : List Value}, VRs ρ vs vs' → allV flat1 vs = true → ∀ v ∈ vs', v.oneCell' = true
  | _, _, .nil, _, v, hv => by cases hv
  | _, _, .cons h hs, hf, v, hv => by
    unfold allV at hf
    obtain ⟨h1, h2⟩ := and_true' hf
    cases hv with
    | head => exact flat_one h h1
    | tail _ hv => exact flats_one hs h2 v hv
theorem World.frozen_of {w : World} {b i : Nat} {c : Array Value} {ct : TypeId} {lo hi : Nat} (h : w.heap[b]? = some (.cells c ct (lo, hi))) (hf : ¬ (lo ≤ i ∧ i < hi)) : w.frozen? ⟨b, i, none⟩ = false := by
  unfold World.frozen?
  simp only [h]
  rw [Bool.and_eq_false_iff]
  simp only [decide_eq_false_iff_not]
  omega
theorem writeCells_some {lo : Nat} {h : Heap} {k o : Nat} {new : List Value} {c : Heap → R} {L : List (FV × Heap)} (e : writeCells lo h k o new c = some L) :
    ∃ h', c h' = some L ∧ ∀ ρ w a' new', HR ρ h w → AR ρ ⟨k, o, none⟩ a' → VRs ρ new new' → ∃ b o', a' = ⟨b, o', none⟩ ∧
      (∀ j, j < new'.length → (w.cell? ⟨b, o' + j, none⟩).isSome = true) ∧ (∀ j, j < new'.length → w.frozen? ⟨b, o' + j, none⟩ = false) ∧ (∀ v ∈ new', v.oneCell' = true) ∧
      HR ρ h' (w.setCells b o' new') ∧ Ext lo ρ h w ρ h' (w.setCells b o' new') := by
  unfold writeCells at e
  obtain ⟨e1, e2⟩ := rec_true e
  obtain ⟨hb, hflat⟩ := and_true' e1
  have hlo : lo ≤ k := Nat.le_of_ble_eq_true hb
  obtain ⟨vs, t, z, l, h1, h2⟩ := withCells_some e2
  have hz : z ≠ 1000 := fun hz => by subst hz; cases h2
  have h2 : over vs o new (fun vs' => c (Heap.put h k (.cells vs' t z l))) = some L := by
    cases hb2 : Nat.beq z 1000 with
    | true => exact absurd (Nat.eq_of_beq_eq_true hb2) hz
    | false => rw [hb2] at h2; exact h2
  obtain ⟨h3, h4⟩ := over_some h2
  refine ⟨_, h4, fun ρ w a' new' hr ha hn => ?_⟩
  obtain ⟨b, s, i, cc, ct, flo, fhi, q1, q2, q3, q4, q5, q6, q7⟩ := cell_at hr.s ha h1
  have hl := hn.length
  obtain ⟨c', g1, g2, g3, g4, g5, g6⟩ := setCells_heap b new' (o + s) w cc ct (flo, fhi) q3 (by omega)
  have hsz : c'.size = cc.size := by
    rw [← Array.length_toList, g1]
    simp
    omega
  refine ⟨b, o + s, q2, fun j hj => ?_, fun j hj => World.frozen_of q3 (q6.1 (.inr hz) _ (by omega)), flats_one hn hflat, ?_, ?_⟩
  · rw [cell_of q3, Array.getElem?_eq_getElem (by omega)]; rfl
  · refine hr.turn q1 (by rw [g2, if_pos rfl]) (fun j hj => by rw [g2, if_neg hj]) ?_
    subst q4
    have hlen : (vs.take o ++ new ++ vs.drop (o + new.length)).length = vs.length := by simp; omega
    refine ⟨c', ct, flo, fhi, rfl, by rw [hlen, hsz], by rw [hlen, hsz]; exact q5, ⟨fun h j hj => q6.1 h j (by omega), q6.2⟩, fun j v hj => ?_⟩
    rw [get_over vs new o j h3] at hj
    rw [← Array.getElem?_toList, g1, get_over cc.toList new' (o + s) (s + j) (by have : cc.toList.length = cc.size := Array.length_toList; omega)]
    by_cases c1 : j < o
    · rw [if_pos c1] at hj
      rw [if_pos (by omega), Array.getElem?_toList]
      exact q7 j v hj
    · rw [if_neg c1] at hj
      rw [if_neg (by omega)]
      by_cases c2 : j < o + new.length
      · rw [if_pos c2] at hj
        rw [if_pos (by omega), show s + j - (o + s) = j - o from by omega]
        exact hn.get _ v hj
      · rw [if_neg c2] at hj
        rw [if_neg (by omega), Array.getElem?_toList]
        exact q7 j v hj
  · exact Ext.turn hr hlo q1 (fun j hj => by rw [g2, if_neg hj]) g3 g4 g5 g6

def OpS (P : Program) (lo : Nat) (g : FR → Tm → Heap → K → R) (r : FR) (o : Oper) : Prop :=
  ∀ tm h k L, g r tm h k = some L → ∀ ρ (a : Act) w, TR ρ tm a.tmps → HR ρ h w →
    ∃ v v' ρ' h' w' L', Does P o a w v' w' ∧ FVR ρ' v v' ∧ HR ρ' h' w' ∧ Ext lo ρ h w ρ' h' w' ∧ k v h' = some L' ∧ ∀ x ∈ L', x ∈ L
section
variable {P : Program} {E : Env} {o : Oper} (ok : EnvOk P E) (qs : EqsOk P E)
theorem noOp_op (lo : Nat) (r : FR) (o : Oper) : OpS P lo noOp.g r o := fun _ _ _ _ h => absurd h (by simp [noOp])
theorem does_u {a : Act} {w w' : World} {s : Sem Unit} (h : execOp a.eval o = (do s; pure Next.skip)) (hr : s.run P w = .ok () w') : Does P o a w undef w' := .inr ⟨by rw [h]; exact run_u hr, rfl⟩
include ok in
theorem store_op {t : TypeId} {x y : Operand} {r : FR} (ho : o.op = .store t x y) : OpS P E.lo (storeOp E t (opd x) (opd y)).g r o := by
  show OpS P E.lo (match E.size t with
    | some n => (⟨fun _ tm h k => asPtr ((opd x).f tm) fun b o => cellsOf ((opd y).f tm) fun new => Bool.rec none (writeCells E.lo h b o new fun h' => k .u h') (Nat.beq new.length n)⟩ : COp)
    | none => noOp).g r o
  split
  · rename_i n hs
    intro tm h k L e
    dsimp only at e
    obtain ⟨b, q, e1, e2⟩ := asPtr_some e
    obtain ⟨new, e3, e4⟩ := cellsOf_some e2
    obtain ⟨e5, e6⟩ := rec_true e3
    obtain ⟨h', e7, e8⟩ := writeCells_some e6
    rw [opd_f] at e1 e4
    have hn := Nat.eq_of_beq_eq_true e5
    intro ρ a w ht hr
    have hx := ht.ev x; rw [e1] at hx
    have hy := e4 ρ _ (ht.ev y)
    obtain ⟨a', g1, g2⟩ := hx.p_inv
    obtain ⟨b', o', q1, q2, q3, q4, q5, q6⟩ := e8 ρ w a' _ hr g2 hy
    refine ⟨.u, undef, ρ, h', _, L, does_u (s := Instr.storeAt t (.pointer (some a')) (a.eval y)) (by unfold execOp; rw [ho]; simp only [g1]) ?_, trivial, q5, q6, e7, fun _ hx => hx⟩
    subst q1
    have hst := run_storeCells_cells (P := P) b' o' (a.eval y).cells.toList 0 w (by simpa using q2) (by simpa using q3) q4
    have hsz : (a.eval y).cells.size = n := by rw [← Array.length_toList, ← hy.length]; exact hn
    unfold Instr.storeAt storeVar
    simp only [Sem.run_bind, Instr.sureAddr, Sem.run_pure, Result.andThen_ok, run_size ok hs, hsz, ne_eq, not_true_eq_false, if_false]
    exact hst
  · exact noOp_op _ _ _
end
end Go.FX
namespace Go.FX
variable [Sym]
theorem setAt_All2 {r : Entry → MapEntry → Prop} {x : Entry} {f : MapEntry → MapEntry} : ∀ {es : List Entry} {es' : List MapEntry} {i : Nat}, All2 r es es' → (∀ b, es'[i]? = some b → r x (f b)) → All2 r (setAt es i x) (es'.modify i f)
  | _, _, i, .nil, h => by
    have : ([] : List MapEntry).modify i f = [] := by cases i <;> rfl
    rw [this]; exact .nil
  | _, _, 0, .cons h hs, g => by
    have := g _ rfl
    exact .cons this hs
  | _, _, i + 1, .cons h hs, g => .cons h (setAt_All2 hs fun b hb => g b (by simpa using hb))
theorem get_lt {w : World} {r : Nat} {ob : Obj} (h : w.heap[r]? = some ob) : r < w.heap.size := by
  rcases Nat.lt_or_ge r w.heap.size with c | c
  · exact c
  · rw [Array.getElem?_eq_none c] at h; cases h
theorem setObj_run {P : Program} {w : World} {r : Nat} {ob ob' : Obj} (h : w.heap[r]? = some ob) (hc : ∀ c t f, ob ≠ .cells c t f) : (setObj r ob').run P w = .ok () { w with heap := w.heap.setIfInBounds r ob' } := by
  unfold setObj
  simp only [Sem.run, h]
theorem setObj_heap {w : World} {r : Nat} {ob ob' : Obj} (h : w.heap[r]? = some ob) : (w.heap.setIfInBounds r ob')[r]? = some ob' ∧ (∀ j, j ≠ r → (w.heap.setIfInBounds r ob')[j]? = w.heap[j]?) ∧ (w.heap.setIfInBounds r ob').size = w.heap.size := by
  refine ⟨?_, fun j hj => ?_, by simp⟩
  · simp [get_lt h]
  · rw [Array.getElem?_setIfInBounds, if_neg (by omega)]
theorem stays {P : Program} {old new : Value} {w : World} (h : Instr.sameBits 10000 old new = true) : (Instr.keyThatStays old new).run P w = .ok new w := by
  unfold Instr.keyThatStays
  rw [h]; rfl
section
variable {P : Program} {E : Env} {o : Oper} (ok : EnvOk P E) (qs : EqsOk P E)
include ok qs in
theorem mapUpdate_op {t : TypeId} {m x y : Operand} {r : FR} (ho : o.op = .mapUpdate t m x y ∨ o.op = .insert t m x y) : OpS P E.lo (mapUpdateOp E t (opd m) (opd x) (opd y)).g r o := by
  show OpS P E.lo (match E.und t with
    | some (.map kt _) => (match keysOf E kt with
      | some ⟨f⟩ => (⟨fun _ tm h k => asO ((opd m).f tm) fun mv => known ((opd x).f tm) fun q => known ((opd y).f tm) fun v => match mv with
        | .map (some r) => Bool.rec none (match Heap.get h r with
          | some (.map es c) => findKey f (FV.v q) es (fun i e => k .u (Heap.put h r (Blk.map (setAt es i (Entry.mk (FV.v q) (FV.v v) e.born)) c))) (k .u (Heap.put h r (Blk.map (es ++ [Entry.mk (FV.v q) (FV.v v) c]) (Nat.succ c))))
          | _ => none) ((f (FV.v q) (FV.v q)).isSome && Nat.ble E.lo r)
        | _ => none⟩ : COp)
      | none => noOp)
    | _ => noOp).g r o
  have hexec : ∀ a : Act, execOp a.eval o = (do Instr.mapUpdate t (a.eval m) (a.eval x) (a.eval y); pure Next.skip : Sem Next) := fun a => by rcases ho with ho | ho <;> (unfold execOp; rw [ho])
  split
  · rename_i kt et hu
    split
    · rename_i f hk
      have ko := keysOf_ok ok qs hk
      intro tm h k L e
      dsimp only at e
      obtain ⟨mv, e1, e2⟩ := asO_some e
      obtain ⟨e3, e4⟩ := known_some e2
      obtain ⟨e5, e6⟩ := known_some e4
      rw [opd_f] at e1 e3 e5
      rw [opd_f, opd_f] at e6
      split at e6
      · rename_i rr
        obtain ⟨e7, e8⟩ := rec_true e6
        obtain ⟨e9, e10⟩ := and_true' e7
        have hlo : E.lo ≤ rr := Nat.le_of_ble_eq_true e10
        split at e8
        · rename_i es c hg
          have run : ∀ ρ (a : Act) w, TR ρ tm a.tmps → HR ρ h w → ∃ r' i es', ρ rr = .at r' 0 i ∧ a.eval m = .map (some r') ∧ w.heap[r']? = some (.map es' c) ∧ All2 (EntR ρ) es es'.toList ∧ VR ρ (FV.v (ev tm x)) (a.eval x) ∧ VR ρ (FV.v (ev tm y)) (a.eval y) := by
            intro ρ a w ht hr
            have hm := ht.ev m; rw [e1] at hm
            have hm' := hm.o_inv
            cases hmv : a.eval m <;> rw [hmv] at hm' <;> cases hm'
            rename_i r' hmr
            obtain ⟨i, es', g1, g2, g3⟩ := map_at hr.s hmr hg
            exact ⟨r', i, es', g1, rfl, g2, g3, (ht.ev x).known_inv e3, (ht.ev y).known_inv e5⟩
          rcases findKey_some e8 with ⟨i, en, q1, q2, q3, q4⟩ | ⟨q1, q2⟩
          · intro ρ a w ht hr
            obtain ⟨r', inf, es', g1, g2, g3, g4, g5, g6⟩ := run ρ a w ht hr
            obtain ⟨e', f1, f2, f3⟩ := findKey_yes ko g5 g4 q1 q2 q3 w
            obtain ⟨s1, s2, s3⟩ := setObj_heap (ob' := .map (es'.modify i fun e => { e with key := a.eval x, val := a.eval y }) c) g3
            refine ⟨.u, undef, ρ, _, { w with heap := w.heap.setIfInBounds r' (.map (es'.modify i fun e => { e with key := a.eval x, val := a.eval y }) c) }, L, does_u (hexec a) ?_, trivial, ?_, ?_, by rw [Nat.zero_add] at q4; exact q4, fun _ hx => hx⟩
            · rw [g2]
              have hbits := ko.bits ρ _ _ _ _ q2 g5 f2.key
              have he' : es'[i]? = some e' := by rw [← Array.getElem?_toList]; exact f1
              unfold Instr.mapUpdate
              simp only [Sem.run_bind, run_und ok hu, Result.andThen_ok, getObj_run (P := P) g3 (by simp), ko.key ρ _ _ false w e9 g5, f3, he', Option.map_some, Option.getD_some, stays hbits]
              exact setObj_run g3 (by simp)
            · refine hr.turn g1 s1 s2 ⟨rfl, _, rfl, ?_⟩
              rw [Array.toList_modify]
              exact setAt_All2 g4 fun b hb => ⟨g5, g6, by rw [f1] at hb; cases hb; exact f2.born⟩
            · exact Ext.turn hr hlo g1 s2 s3 rfl rfl rfl
          · intro ρ a w ht hr
            obtain ⟨r', inf, es', g1, g2, g3, g4, g5, g6⟩ := run ρ a w ht hr
            have f3 := findKey_no ko g5 g4 q1 w
            obtain ⟨s1, s2, s3⟩ := setObj_heap (ob' := .map (es'.push { key := a.eval x, val := a.eval y, born := c }) (c + 1)) g3
            refine ⟨.u, undef, ρ, _, { w with heap := w.heap.setIfInBounds r' (.map (es'.push { key := a.eval x, val := a.eval y, born := c }) (c + 1)) }, L, does_u (hexec a) ?_, trivial, ?_, ?_, q2, fun _ hx => hx⟩
            · rw [g2]
              unfold Instr.mapUpdate
              simp only [Sem.run_bind, run_und ok hu, Result.andThen_ok, getObj_run (P := P) g3 (by simp), ko.key ρ _ _ false w e9 g5, f3]
              exact setObj_run g3 (by simp)
            · refine hr.turn g1 s1 s2 ⟨rfl, _, rfl, ?_⟩
              rw [Array.toList_push]
              exact g4.append (.cons ⟨g5, g6, rfl⟩ .nil)
            · exact Ext.turn hr hlo g1 s2 s3 rfl rfl rfl
        · cases e8
      · cases e6
    · exact noOp_op _ _ _
  · exact noOp_op _ _ _
end
end Go.FX
namespace Go.FX
variable [Sym]
section
variable {P : Program} {E : Env} {o : Oper} (ok : EnvOk P E) (qs : EqsOk P E)
/-- The real block behind an abstract one that is no row. -/
theorem obj_at {ρ : Rho} {h : Heap} {w : World} (hr : HRs ρ h w) {k : Nat} {a' : Addr} (ha : AR ρ ⟨k, 0, none⟩ a') {B : Blk} (hk : h.get k = some B) :
    ∃ b s i ob, ρ k = .at b s i ∧ a' = ⟨b, 0 + s, none⟩ ∧ w.heap[b]? = some ob ∧ BR ρ s i B ob := by
  have hf : ρ k ≠ .fresh := fun e => by unfold AR at ha; simp only [e] at ha
  obtain ⟨b, s, i, ob, h1, h2, h3⟩ := hr.live hk hf
  unfold AR at ha
  simp only [h1] at ha
  exact ⟨b, s, i, ob, h1, ha.2, h2, h3⟩
theorem nextStr_op {x : Operand} {r : FR} (ho : o.op = .next x true) : OpS P E.lo (nextStr E (opd x)).g r o := by
  intro tm h k L e
  have e' : asPtr ((opd x).f tm) (fun r o => Bool.rec none (match Heap.get h r with
      | some (.sIter s p) => (match s.data.toList[p]? with
        | some b => Bool.rec none (k (.o (.tuple ⟨[.bool true, .int .i64 (.ofNat p), .int .i32 (.ofNat b.toNat)]⟩)) (Heap.put h r (.sIter s (Nat.succ p)))) (Nat.blt b.toNat 128)
        | none => k (.o (.tuple ⟨[.bool false]⟩)) h)
      | _ => none) (Nat.beq o 0 && Nat.ble E.lo r)) = some L := e
  obtain ⟨b, q, e1, e2⟩ := asPtr_some e'
  rw [opd_f] at e1
  obtain ⟨e3, e4⟩ := rec_true e2
  obtain ⟨e5, e6⟩ := and_true' e3
  have hq := Nat.eq_of_beq_eq_true e5
  have hlo : E.lo ≤ b := Nat.le_of_ble_eq_true e6
  subst hq
  split at e4
  · rename_i s p hk
    have key : ∀ ρ (a : Act) w, TR ρ tm a.tmps → HR ρ h w → ∃ b' i, ρ b = .at b' 0 i ∧ a.eval x = .pointer (some ⟨b', 0, none⟩) ∧ w.heap[b']? = some (.stringIter s p) := by
      intro ρ a w ht hr
      have hx := ht.ev x; rw [e1] at hx
      obtain ⟨a', g1, g2⟩ := hx.p_inv
      obtain ⟨b', s', i, ob, q1, q2, q3, q4, q5⟩ := obj_at hr.s g2 hk
      subst q4 q5
      exact ⟨b', i, q1, by rw [g1, q2], q3⟩
    have hlen : s.data.toList.length = s.size := Array.length_toList
    split at e4
    · rename_i c hc
      obtain ⟨e7, e8⟩ := rec_true e4
      have hasc : c.toNat < 128 := Nat.le_of_ble_eq_true e7
      intro ρ a w ht hr
      obtain ⟨b', i, q1, q2, q3⟩ := key ρ a w ht hr
      have hp : p < s.size := by rw [← hlen]; exact (List.getElem?_eq_some_iff.1 hc).1
      have hsc : s[p]'hp = c := by
        have := (List.getElem?_eq_some_iff.1 hc).2
        rw [← this]; simp; rfl
      obtain ⟨s1, s2, s3⟩ := setObj_heap (ob' := .stringIter s (p + 1)) q3
      refine ⟨.o (.tuple ⟨[.bool true, .int .i64 (.ofNat p), .int .i32 (.ofNat c.toNat)]⟩), .tuple #[.bool true, goInt p, .int .i32 c.toNat], ρ, _, { w with heap := w.heap.setIfInBounds b' (.stringIter s (p + 1)) }, L, does_v (s := Instr.next (.pointer (some ⟨b', 0, none⟩)) true o.type) (by unfold execOp; rw [ho]; simp only [q2]) ?_, VR.tuple (.cons (.bool _) (.cons (.int _ _) (.cons (.int _ _) .nil))), ?_, ?_, e8, fun _ hx => hx⟩
      · unfold Instr.next
        have hd : Utf8.decode s p = (c.toNat, 1) := by rw [decode_ascii s p hp (by rw [hsc]; exact hasc), hsc]
        simp only [Sem.run_bind, getObj_run (P := P) q3 (by simp), Result.andThen_ok, if_pos hp, hd, setObj_run (P := P) (ob' := .stringIter s (p + 1)) q3 (by simp), Sem.run_pure]
      · exact hr.turn q1 s1 s2 ⟨rfl, rfl⟩
      · exact Ext.turn hr hlo q1 s2 s3 rfl rfl rfl
    · rename_i hc
      intro ρ a w ht hr
      obtain ⟨b', i, q1, q2, q3⟩ := key ρ a w ht hr
      have hp : ¬ p < s.size := by rw [← hlen]; have := List.getElem?_eq_none_iff.1 hc; omega
      refine ⟨.o (.tuple ⟨[.bool false]⟩), .tuple #[.bool false], ρ, _, w, L, does_v (s := Instr.next (.pointer (some ⟨b', 0, none⟩)) true o.type) (by unfold execOp; rw [ho]; simp only [q2]) ?_, VR.tuple (.cons (.bool _) .nil), hr, .refl _ _ _ _, e4, fun _ hx => hx⟩
      unfold Instr.next
      simp only [Sem.run_bind, getObj_run (P := P) q3 (by simp), Result.andThen_ok, if_neg hp, Sem.run_pure]
  · cases e4
theorem each_mem {α : Type} {f : α → R} : ∀ {l : List α} {L : List (FV × Heap)}, each l f = some L → ∀ e ∈ l, ∃ L', f e = some L' ∧ ∀ x ∈ L', x ∈ L
  | [], L, h, e, he => by cases he
  | [x], L, h, e, he => by
    have h' : f x = some L := h
    cases he with
    | head => exact ⟨L, h', fun _ hx => hx⟩
    | tail _ he => cases he
  | x :: y :: ys, L, h, e, he => by
    have h' : (match f x, each (y :: ys) f with | some a, some b => some (a ++ b) | _, _ => none) = some L := h
    cases hx : f x with
    | none => rw [hx] at h'; cases h'
    | some a =>
      cases hy : each (y :: ys) f with
      | none => rw [hx, hy] at h'; cases h'
      | some b =>
        rw [hx, hy] at h'
        injection h' with h'
        subst h'
        cases he with
        | head => exact ⟨a, hx, fun z hz => List.mem_append_left _ hz⟩
        | tail _ he =>
          obtain ⟨L', g1, g2⟩ := each_mem hy e he
          exact ⟨L', g1, fun z hz => List.mem_append_right _ (g2 z hz)⟩
theorem All2.filter {α β : Type} {r : α → β → Prop} {p : α → Bool} {q : β → Bool} (hpq : ∀ a b, r a b → p a = q b) : ∀ {as : List α} {bs : List β}, All2 r as bs → All2 r (as.filter p) (bs.filter q)
  | _, _, .nil => .nil
  | a :: as, b :: bs, .cons h hs => by
    rw [List.filter_cons, List.filter_cons, hpq a b h]
    cases q b with
    | true => exact .cons h (All2.filter hpq hs)
    | false => exact All2.filter hpq hs
theorem hasNat_eq (n : Nat) : ∀ l : List Nat, hasNat n l = l.toArray.contains n
  | [] => by simp [hasNat]
  | x :: xs => by
    unfold hasNat
    rw [hasNat_eq n xs, beq_iff]
    simp only [List.contains_toArray, List.contains_cons]
    congr 1
    rw [Bool.eq_iff_iff, decide_eq_true_eq, beq_iff_eq]
    exact ⟨Eq.symm, Eq.symm⟩
theorem bornAll_all {c : Nat} : ∀ {es : List Entry}, bornAll c es = true → ∀ e ∈ es, e.born < c
  | [], _, e, he => by cases he
  | x :: xs, h, e, he => by
    unfold bornAll at h
    obtain ⟨h1, h2⟩ := and_true' h
    cases he with
    | head => exact Nat.le_of_ble_eq_true h1
    | tail _ he => exact bornAll_all h2 e he
theorem mapNext_run {n : Nat} (hn : 0 < n) (w : World) : ∃ i dr, i < n ∧ (choose (.mapNext n)).run P w = .ok i { w with drawn := dr } := by
  by_cases c : n ≤ 1
  · refine ⟨0, w.drawn, hn, ?_⟩
    show (if Question.forced (.mapNext n) = true then Result.ok 0 w else _) = _
    rw [if_pos (by show decide (n ≤ 1) = true; simp [c])]
  · refine ⟨_, w.drawn + 1, Nat.mod_lt (w.tape w.drawn (.mapNext n)) hn, ?_⟩
    show (if Question.forced (.mapNext n) = true then Result.ok 0 w else _) = _
    rw [if_neg (by show ¬ decide (n ≤ 1) = true; simp [c])]
    rfl
def nextPick (b' r' c : Nat) (seen : List Nat) (cands : Array (Option MapEntry)) : Sem Value := do
  match cands[← choose (.mapNext cands.size)]? with
  | some (some e) =>
    setObj b' (.mapIter (some r') c (seen.toArray.push e.born) c)
    pure (.tuple #[.bool true, e.key, e.val])
  | some none => pure (.tuple #[.bool false])
  | none => stuck "Next: no such candidate"
theorem nextMap_op {x : Operand} {r : FR} (ho : o.op = .next x false) : OpS P E.lo (nextMap E (opd x)).g r o := by
  intro tm h k L e
  have e' : asPtr ((opd x).f tm) (fun r o => Bool.rec none (match Heap.get h r with
      | some (.mIter none _ _ _) => k (.o (.tuple ⟨[.bool false]⟩)) h
      | some (.mIter (some m) since seen st) => (match Heap.get h m with
        | some (.map es c) => Bool.rec none (match es.filter (fun e => !hasNat e.born seen) with
            | [] => k (.o (.tuple ⟨[.bool false]⟩)) h
            | left => each left fun e => k (.o (.tuple ⟨[.bool true, e.key, e.val]⟩)) (Heap.put h r (.mIter (some m) since (seen ++ [e.born]) c)))
            (Nat.beq c since && Nat.beq c st && bornAll c es)
        | _ => none)
      | _ => none) (Nat.beq o 0 && Nat.ble E.lo r)) = some L := e
  obtain ⟨b, q, e1, e2⟩ := asPtr_some e'
  rw [opd_f] at e1
  obtain ⟨e3, e4⟩ := rec_true e2
  obtain ⟨e5, e6⟩ := and_true' e3
  have hq := Nat.eq_of_beq_eq_true e5
  have hlo : E.lo ≤ b := Nat.le_of_ble_eq_true e6
  subst hq
  intro ρ a w ht hr
  have hx := ht.ev x; rw [e1] at hx
  obtain ⟨a', g1, g2⟩ := hx.p_inv
  split at e4
  · rename_i since seen st hk
    obtain ⟨b', s', i, ob, q1, q2, q3, q4, m', q5, q6⟩ := obj_at hr.s g2 hk
    subst q4 q5
    simp only [] at q6
    subst q6
    refine ⟨.o (.tuple ⟨[.bool false]⟩), .tuple #[.bool false], ρ, _, w, L, does_v (s := Instr.next (.pointer (some ⟨b', 0, none⟩)) false o.type) (by unfold execOp; rw [ho]; simp only [g1, q2]) ?_, VR.tuple (.cons (.bool _) .nil), hr, .refl _ _ _ _, e4, fun _ hx => hx⟩
    unfold Instr.next
    simp only [Sem.run_bind, getObj_run (P := P) q3 (by simp), Result.andThen_ok, Sem.run_pure]
  · rename_i m since seen st hk
    obtain ⟨b', s', i, ob, q1, q2, q3, q4, m', q5, q6⟩ := obj_at hr.s g2 hk
    subst q4 q5
    simp only [] at q6
    obtain ⟨r', q6, q7⟩ := q6
    subst q6
    split at e4
    · rename_i es c hm
      obtain ⟨e7, e8⟩ := rec_true e4
      obtain ⟨e9, hall⟩ := and_true' e7
      obtain ⟨e10, e11⟩ := and_true' e9
      have hc1 := Nat.eq_of_beq_eq_true e10
      have hc2 := Nat.eq_of_beq_eq_true e11
      subst hc1 hc2
      obtain ⟨i2, es', g3, g4, g5⟩ := map_at hr.s q7 hm
      have hb' : ∀ e' ∈ es'.toList, e'.born < c := by
        intro e' he'
        obtain ⟨j, hj⟩ := List.getElem?_of_mem he'
        obtain ⟨a1, f1, f2⟩ := g5.get' j e' hj
        rw [← f2.born]
        exact bornAll_all hall a1 (List.mem_of_getElem? f1)
      have hleft := g5.filter (p := fun e => !hasNat e.born seen) (q := fun e => !seen.toArray.contains e.born) (fun a b hab => by rw [hasNat_eq, hab.born])
      have hguard : (!seen.toArray.isEmpty && !es'.isEmpty && es'.all (fun e => decide (e.born ≥ c))) = false := by
        cases hes : es'.isEmpty with
        | true => simp
        | false =>
          have : es'.all (fun e => decide (e.born ≥ c)) = false := by
            rw [← Bool.not_eq_true, Array.all_eq_true']
            intro hcon
            have hne : es'.toList ≠ [] := by
              intro h0
              have : es' = #[] := Array.ext' h0
              rw [this] at hes; cases hes
            obtain ⟨y, hy⟩ := List.exists_mem_of_ne_nil _ hne
            have h1 := hb' y hy
            have h2 := hcon y (by simpa using hy)
            simp at h2
            omega
          rw [this]; simp
      have hnext : (Instr.next (.pointer (some ⟨b', 0, none⟩)) false o.type).run P w = (nextPick b' r' c seen ((if (es'.filter fun e => !seen.toArray.contains e.born).isEmpty then #[none] else #[]) ++ (es'.filter fun e => !seen.toArray.contains e.born).map some)).run P w := by
        have hold : (es'.filter fun e => !seen.toArray.contains e.born).filter (fun e => decide (e.born < c)) = es'.filter fun e => !seen.toArray.contains e.born := by
          rw [Array.filter_eq_self]
          intro y hy
          have := hb' y (by have := (Array.mem_filter.1 hy).1; simpa using this)
          simp [this]
        have hnew : (es'.filter fun e => !seen.toArray.contains e.born).filter (fun e => decide (e.born ≥ c)) = #[] := by
          rw [Array.filter_eq_empty_iff]
          intro y hy
          have := hb' y (by have := (Array.mem_filter.1 hy).1; simpa using this)
          simp [this]
        unfold Instr.next
        simp only [Sem.run_bind, getObj_run (P := P) q3 (by simp), getObj_run (P := P) g4 (by simp), Result.andThen_ok]
        simp only [hguard, Bool.false_eq_true, if_false, hold, hnew, Array.append_empty]
        rw [Sem.run_bind]
        unfold nextPick
        rw [Sem.run_bind]
        rfl
      have hex : ∀ (v' : Value) w', (Instr.next (.pointer (some ⟨b', 0, none⟩)) false o.type).run P w = .ok v' w' → Does P o a w v' w' := fun v' w' hh =>
        does_v (s := Instr.next (.pointer (some ⟨b', 0, none⟩)) false o.type) (by unfold execOp; rw [ho]; simp only [g1, q2]) hh
      rw [hnext] at hex
      have hlist : (es'.filter fun e => !seen.toArray.contains e.born).toList = es'.toList.filter fun e => !seen.toArray.contains e.born := Array.toList_filter
      generalize hlf : (es'.filter fun e => !seen.toArray.contains e.born) = lf at hex hlist
      rw [← hlist] at hleft
      generalize hla : List.filter (fun e => !hasNat e.born seen) es = la at hleft e8
      cases la with
      | nil =>
        have h0 : lf = #[] := by
          apply Array.ext'
          cases hl : lf.toList with
          | nil => rfl
          | cons y ys => rw [hl] at hleft; cases hleft
        subst h0
        obtain ⟨ii, dr, j1, j2⟩ := mapNext_run (P := P) (n := 1) (by omega) w
        refine ⟨.o (.tuple ⟨[.bool false]⟩), .tuple #[.bool false], ρ, h, { w with drawn := dr }, L, hex _ _ ?_, VR.tuple (.cons (.bool _) .nil), hr.congr rfl, .drew dr, e8, fun _ hx => hx⟩
        have hi0 : ii = 0 := by omega
        subst hi0
        have hc : ((if (#[] : Array MapEntry).isEmpty then #[none] else #[]) ++ (#[] : Array MapEntry).map some) = #[none] := by simp
        rw [hc]
        unfold nextPick
        rw [Sem.run_bind]
        show ((choose (.mapNext 1)).run P w).andThen _ = _
        rw [j2]
        rfl
      | cons y ys =>
        have e8' : each (y :: ys) (fun e => k (.o (.tuple ⟨[.bool true, e.key, e.val]⟩)) (Heap.put h b (.mIter (some m) c (seen ++ [e.born]) c))) = some L := e8
        have hlen := hleft.length
        have hlen2 : lf.toList.length = lf.size := Array.length_toList
        have hpos : 0 < lf.size := by rw [← hlen2, ← hlen]; simp
        have hne : lf.isEmpty = false := by
          cases hq : lf.isEmpty with
          | false => rfl
          | true => rw [Array.isEmpty_iff] at hq; rw [hq] at hpos; simp at hpos
        obtain ⟨ii, dr, j1, j2⟩ := mapNext_run (P := P) hpos w
        obtain ⟨en, f1, f2⟩ := hleft.get' ii lf[ii] (by simp [j1])
        obtain ⟨L', f3, f4⟩ := each_mem e8' en (List.mem_of_getElem? f1)
        obtain ⟨s1, s2, s3⟩ := setObj_heap (ob' := .mapIter (some r') c (seen.toArray.push (lf[ii]).born) c) q3
        refine ⟨.o (.tuple ⟨[.bool true, en.key, en.val]⟩), .tuple #[.bool true, (lf[ii]).key, (lf[ii]).val], ρ, _, { w with heap := w.heap.setIfInBounds b' (.mapIter (some r') c (seen.toArray.push (lf[ii]).born) c), drawn := dr }, L', hex _ _ ?_,
          VR.tuple (.cons (.bool _) (.cons f2.key (.cons f2.val .nil))), ?_, ?_, f3, f4⟩
        · have hc : ((if lf.isEmpty then #[none] else #[]) ++ lf.map some) = lf.map some := by rw [hne]; simp
          rw [hc]
          unfold nextPick
          rw [Array.size_map, Sem.run_bind, j2, Result.andThen_ok]
          have hgi : (lf.map some)[ii]? = some (some lf[ii]) := by simp [j1]
          rw [hgi]
          simp only [Sem.run_bind]
          rw [setObj_run (P := P) (w := { w with drawn := dr }) (ob' := .mapIter (some r') c (seen.toArray.push (lf[ii]).born) c) q3 (by simp)]
          rfl
        · refine hr.turn q1 s1 s2 ⟨rfl, _, ?_, r', rfl, q7⟩
          rw [f2.born]
          simp
        · exact Ext.turn hr hlo q1 s2 s3 rfl rfl rfl
    · cases e4
  · cases e4
end
end Go.FX
namespace Go.FX
variable [Sym]
section
variable {P : Program} {E : Env} {o : Oper} (ok : EnvOk P E) (qs : EqsOk P E)
include ok in
theorem rangeMap_op {t : TypeId} {x : Operand} {r : FR} {kt et : TypeId} (hu : E.und t = some (.map kt et)) (ho : o.op = .range t x) : OpS P E.lo (rangeOp E t (opd x)).g r o := by
  have he : rangeOp E t (opd x) = ⟨fun _ tm h k => asO ((opd x).f tm) fun v => match v with
      | .map none => Heap.new h (.mIter none 0 [] 0) fun n h' => k (.p n 0) h'
      | .map (some m) => (match Heap.get h m with | some (.map _ c) => Heap.new h (.mIter (some m) c [] c) fun n h' => k (.p n 0) h' | _ => none)
      | _ => none⟩ := by
    show (match E.und t with
    | some .string => (⟨fun _ tm h k => asO ((opd x).f tm) fun v => match v with | .string s => Heap.new h (.sIter s 0) fun n h' => k (.p n 0) h' | _ => none⟩ : COp)
    | some (.map _ _) => ⟨fun _ tm h k => asO ((opd x).f tm) fun v => match v with
      | .map none => Heap.new h (.mIter none 0 [] 0) fun n h' => k (.p n 0) h'
      | .map (some m) => (match Heap.get h m with | some (.map _ c) => Heap.new h (.mIter (some m) c [] c) fun n h' => k (.p n 0) h' | _ => none)
      | _ => none⟩
    | _ => noOp) = _
    rw [hu]
  rw [he]
  intro tm h k L e'
  dsimp only at e'
  obtain ⟨v, e1, e2⟩ := asO_some e'
  rw [opd_f] at e1
  intro ρ a w ht hr
  have hx := ht.ev x; rw [e1] at hx
  have hx' := hx.o_inv
  split at e2
  · obtain ⟨e5, e6⟩ := Heap.new_eq e2
    have hv : a.eval x = .map none := by generalize a.eval x = y at hx'; cases hx'; rfl
    have hB : BR ρ 0 ⟨false, 0, 0, 0⟩ (.mIter none 0 [] 0) (.mapIter none 0 #[] 0) := ⟨rfl, none, rfl, rfl⟩
    refine ⟨.p h.nx 0, .pointer (some ⟨w.heap.size, 0, none⟩), _, _, { w with heap := w.heap.push (.mapIter none 0 #[] 0) }, L, does_v (s := Instr.range t (.map none)) (by unfold execOp; rw [ho]; simp only [hv]) ?_, .of (.ptr (.made (upd_at _ _ _))), hr.make e5 rfl hB, Ext.make hr e5 rfl rfl rfl rfl, e6, fun _ hx => hx⟩
    unfold Instr.range
    simp only [Sem.run_bind, run_und ok hu, Result.andThen_ok]
    rfl
  · rename_i m
    split at e2
    · rename_i es c hm
      obtain ⟨e5, e6⟩ := Heap.new_eq e2
      cases hv : a.eval x <;> rw [hv] at hx' <;> cases hx'
      rename_i r' hmr
      obtain ⟨i, es', g1, g2, g3⟩ := map_at hr.s hmr hm
      have hB : BR ρ 0 ⟨false, 0, 0, 0⟩ (.mIter (some m) c [] c) (.mapIter (some r') c #[] c) := ⟨rfl, some r', rfl, r', rfl, hmr⟩
      refine ⟨.p h.nx 0, .pointer (some ⟨w.heap.size, 0, none⟩), _, _, { w with heap := w.heap.push (.mapIter (some r') c #[] c) }, L, does_v (s := Instr.range t (.map (some r'))) (by unfold execOp; rw [ho]; simp only [hv]) ?_, .of (.ptr (.made (upd_at _ _ _))), hr.make e5 rfl hB, Ext.make hr e5 rfl rfl rfl rfl, e6, fun _ hx => hx⟩
      unfold Instr.range
      simp only [Sem.run_bind, run_und ok hu, Result.andThen_ok, getObj_run (P := P) g2 (by simp), Sem.run_pure]
      rfl
    · cases e2
  · cases e2

/-! Calls of builtins. -/

theorem call1 {c : Call} {b : Builtin} {t : TypeId} {x : Operand} (hc : c.callee = .builtin b) (ht : c.argTypes.toList = [t]) (ha : c.args.toList = [x]) (ho : o.op = .call c) (a : Act) :
    ∃ cs, execOp a.eval o = Go.builtin b #[t] o.type cs #[a.eval x] := by
  have ht' : c.argTypes = #[t] := by apply Array.ext'; rw [ht]
  have ha' : c.args = #[x] := by apply Array.ext'; rw [ha]
  refine ⟨c.args.map fun | .const _ => true | _ => false, ?_⟩
  unfold execOp
  rw [ho]
  simp only [resolve, hc, ht', ha']
  simp [invoke]
  rfl
theorem call2 {c : Call} {b : Builtin} {s t : TypeId} {x y : Operand} (hc : c.callee = .builtin b) (ht : c.argTypes.toList = [s, t]) (ha : c.args.toList = [x, y]) (ho : o.op = .call c) (a : Act) :
    ∃ cs, execOp a.eval o = Go.builtin b #[s, t] o.type cs #[a.eval x, a.eval y] := by
  have ht' : c.argTypes = #[s, t] := by apply Array.ext'; rw [ht]
  have ha' : c.args = #[x, y] := by apply Array.ext'; rw [ha]
  refine ⟨c.args.map fun | .const _ => true | _ => false, ?_⟩
  unfold execOp
  rw [ho]
  simp only [resolve, hc, ht', ha']
  simp [invoke]
  rfl
theorem SR.ar {ρ : Rho} {k o n c : Nat} {a' : Addr} {c' : Nat} (h : SR ρ ⟨k, o, none⟩ a' n c c') (hn : c ≠ 0) : AR ρ ⟨k, o, none⟩ a' := by
  obtain ⟨h1, h2, _, h3⟩ := h
  rcases h3 with h3 | h3
  · omega
  · unfold AR
    cases hb : ρ k with
    | fresh => simp only [hb] at h3
    | dead => trivial
    | «at» x y z => simp only [hb] at h3 ⊢; exact ⟨trivial, h3.2.1⟩
include ok in
theorem clear_op {c : Call} {t : TypeId} {x : Operand} {r : FR} (hc : c.callee = .builtin .clear) (hat : c.argTypes.toList = [t]) (ha : c.args.toList = [x]) (ho : o.op = .call c) : OpS P E.lo (clearOp E t (opd x)).g r o := by
  have hex : ∀ (a : Act) w w' v', (Builtin.clear_ #[t] o.type #[a.eval x]).run P w = .ok v' w' → Does P o a w v' w' := fun a w w' v' h => by
    obtain ⟨cs, he⟩ := call1 hc hat ha ho a
    exact does_v (s := Builtin.clear_ #[t] o.type #[a.eval x]) (by rw [he]; rfl) h
  show OpS P E.lo (match E.und t with
    | some (.map _ _) => (⟨fun _ tm h k => asO ((opd x).f tm) fun v => match v with
      | .map none => k .u h
      | .map (some r) => (match Heap.get h r with | some (.map _ c) => Bool.rec none (k .u (Heap.put h r (.map [] c))) (Nat.ble E.lo r) | _ => none)
      | _ => none⟩ : COp)
    | some (.slice e) => (match E.zero e with
      | some z => ⟨fun _ tm h k => known ((opd x).f tm) fun v => match FV.v v with
        | .slice none _ _ => k .u h
        | .slice (some ⟨b, o, none⟩) n _ => Bool.rec (writeCells E.lo h b o (zeros z n) fun h' => k .u h') (k .u h) (Nat.beq n 0)
        | _ => none⟩
      | none => noOp)
    | _ => noOp).g r o
  split
  · rename_i kt et hu
    intro tm h k L e
    dsimp only at e
    obtain ⟨v, e1, e2⟩ := asO_some e
    rw [opd_f] at e1
    intro ρ a w ht hr
    have hx := ht.ev x; rw [e1] at hx
    have hx' := hx.o_inv
    split at e2
    · have hv : a.eval x = .map none := by generalize a.eval x = y at hx'; cases hx'; rfl
      refine ⟨.u, .tuple #[], ρ, h, w, L, hex a w w _ ?_, trivial, hr, .refl _ _ _ _, e2, fun _ hx => hx⟩
      rw [hv]
      simp [Builtin.clear_, run_und ok hu]
    · rename_i m
      split at e2
      · rename_i es cl hm
        obtain ⟨e3, e4⟩ := rec_true e2
        have hlo : E.lo ≤ m := Nat.le_of_ble_eq_true e3
        cases hv : a.eval x <;> rw [hv] at hx' <;> cases hx'
        rename_i r' hmr
        obtain ⟨i, es', g1, g2, g3⟩ := map_at hr.s hmr hm
        obtain ⟨s1, s2, s3⟩ := setObj_heap (ob' := .map #[] cl) g2
        have hB : BR ρ 0 i (.map [] cl) (.map #[] cl) := ⟨rfl, #[], rfl, .nil⟩
        refine ⟨.u, .tuple #[], ρ, _, { w with heap := w.heap.setIfInBounds r' (.map #[] cl) }, L, hex a w _ _ ?_, trivial, hr.turn g1 s1 s2 hB, Ext.turn hr hlo g1 s2 s3 rfl rfl rfl, e4, fun _ hx => hx⟩
        rw [hv]
        simp [Builtin.clear_, run_und ok hu, getObj_run (P := P) g2, setObj_run (P := P) (ob' := .map #[] cl) g2]
      · cases e2
    · cases e2
  · rename_i et hu
    split
    · rename_i z hz
      obtain ⟨zv, hz1, hz2, hz3⟩ := zero_ok ok hz
      intro tm h k L e
      dsimp only at e
      obtain ⟨e1, e2⟩ := known_some e
      rw [opd_f] at e1 e2
      intro ρ a w ht hr
      have hx := (ht.ev x).known_inv e1
      split at e2
      · rename_i n cc hv
        rw [hv] at hx
        have hv' : a.eval x = .slice none 0 0 := by generalize a.eval x = y at hx; cases hx; rfl
        refine ⟨.u, .tuple #[], ρ, h, w, L, hex a w w _ ?_, trivial, hr, .refl _ _ _ _, e2, fun _ hx => hx⟩
        rw [hv']
        simp [Builtin.clear_, run_und ok hu]
      · rename_i b q n cc hv
        rw [hv] at hx
        cases hv' : a.eval x <;> rw [hv'] at hx <;> cases hx
        rename_i c' a' hs
        cases hn : Nat.beq n 0 with
        | true =>
          rw [hn] at e2
          have := Nat.eq_of_beq_eq_true hn
          subst this
          refine ⟨.u, .tuple #[], ρ, h, w, L, hex a w w _ ?_, trivial, hr, .refl _ _ _ _, e2, fun _ hx => hx⟩
          rw [hv']
          simp [Builtin.clear_, run_und ok hu]
        | false =>
          rw [hn] at e2
          have hn0 : n ≠ 0 := by rw [beq_iff] at hn; simpa using hn
          obtain ⟨h', f1, f2⟩ := writeCells_some e2
          have har := hs.ar (by have := hs.1; omega)
          obtain ⟨b', o', q1, q2, q3, q4, q5, q6⟩ := f2 ρ w a' _ hr har (zeros_VRs (hz3 ρ) n)
          subst q1
          refine ⟨.u, .tuple #[], ρ, h', _, L, hex a w _ _ ?_, trivial, q5, q6, f1, fun _ hx => hx⟩
          rw [hv']
          have hzl : zv.cells.size = z.length := by rw [← hz2]; exact Array.length_toList.symm
          have hrow : (Builtin.zeroCells zv.cells n).toList = zeros z n := by
            unfold Builtin.zeroCells
            rw [hzl]
            have := zeros_row hz2 rfl n
            rw [hzl] at this
            exact this
          have hst := run_storeCells_cells (P := P) b' o' (zeros z n) 0 w (by simpa using q2) (by simpa using q3) q4
          obtain ⟨n', rfl⟩ := Nat.exists_eq_succ_of_ne_zero hn0
          simp [Builtin.clear_, run_und ok hu, hz1, hrow, hst]
      · cases e2
    · exact noOp_op _ _ _
  · exact noOp_op _ _ _
end
end Go.FX
namespace Go.FX
variable [Sym]
theorem lenV_some {v : Value} {c : Nat → R} {L : List (FV × Heap)} (h : lenV v c = some L) :
    ∃ n, c n = some L ∧ (∀ ρ v', VR ρ v v' → ∀ P w, (Builtin.lenOf v').run P w = .ok n w) ∧ (∀ a m cc, v = .slice a m cc → m = n) ∧ (∀ s, v = .string s → n = s.data.toList.length) ∧ ((∃ a m cc, v = .slice a m cc) ∨ ∃ s, v = .string s) := by
  unfold lenV at h
  split at h
  · rename_i a n m
    refine ⟨n, h, fun ρ v' hv P w => ?_, fun a m cc e => (by cases e; rfl), fun s e => (by cases e), .inl ⟨_, _, _, rfl⟩⟩
    cases hv <;> rfl
  · rename_i s
    refine ⟨_, h, fun ρ v' hv P w => ?_, fun a m cc e => (by cases e), fun s e => (by cases e; rfl), .inr ⟨_, rfl⟩⟩
    cases hv
    rw [Array.length_toList]
    rfl
  · cases h
theorem firstV_some {h : Heap} {z n : Nat} {v : Value} {c : List Value → R} {L : List (FV × Heap)} (e : firstV h z n v c = some L) (hn : ∀ a m cc, v = .slice a m cc → n ≤ m) :
    ∃ out, c out = some L ∧ ((∃ a m cc, v = .slice a m cc) → out.length = n * z) ∧ (∀ s, v = .string s → out.length = min n s.data.toList.length) ∧
      (n ≠ 0 → ∀ b o m cc, v = .slice (some ⟨b, o, none⟩) m cc → ∃ vs t z' l, h.get b = some (.cells vs t z' l) ∧ n * z ≤ (vs.drop o).length ∧ out = (vs.drop o).take (n * z)) ∧ ∀ (P : Program) ρ w v', HRs ρ h w → VR ρ v v' →
      ∃ out' : Array Value, (∀ w' : World, w'.heap = w.heap → (Builtin.firstCells z n v').run P w' = .ok out' w') ∧ VRs ρ out out'.toList := by
  unfold firstV at e
  split at e
  · rename_i m cc
    obtain ⟨e1, e2⟩ := rec_true e
    have := Nat.eq_of_beq_eq_true e1
    subst this
    refine ⟨[], e2, fun _ => by simp, fun s hs => (by cases hs), fun h0 => absurd rfl h0, fun P ρ w v' hr hv => ?_⟩
    cases hv
    exact ⟨#[], fun _ _ => rfl, .nil⟩
  · rename_i b o m cc
    have hnm := hn _ _ _ rfl
    cases hz : Nat.beq n 0 with
    | true =>
      rw [hz] at e
      have := Nat.eq_of_beq_eq_true hz
      subst this
      refine ⟨[], e, fun _ => by simp, fun s hs => (by cases hs), fun h0 => absurd rfl h0, fun P ρ w v' hr hv => ?_⟩
      cases hv with
      | slice hs =>
        refine ⟨#[], fun w' _ => ?_, .nil⟩
        show (loadCells _ (0 * z)).run P w' = _
        rw [Nat.zero_mul]; rfl
    | false =>
      rw [hz] at e
      have hn0 : n ≠ 0 := by rw [beq_iff] at hz; simpa using hz
      obtain ⟨out, e1, e2, e4, e3⟩ := readCells_some e
      refine ⟨out, e1, fun _ => e2, fun s hs => (by cases hs), fun _ b1 o1 m1 c1 hq => (by cases hq; exact e4), fun P ρ w v' hr hv => ?_⟩
      cases hv with
      | slice hs =>
        obtain ⟨out', g1, g2⟩ := e3 P ρ w _ hr (hs.ar (by have := hs.1; omega))
        exact ⟨out', fun w' hw => g1 w' hw, g2⟩
  · rename_i s
    refine ⟨_, e, fun ⟨a, m, cc, h⟩ => by (cases h), fun s' hs => (by cases hs; simp), fun _ b1 o1 m1 c1 hq => (by cases hq), fun P ρ w v' hr hv => ?_⟩
    cases hv
    refine ⟨_, fun w' _ => rfl, ?_⟩
    have : ((s.extract 0 n).data.map fun b => Value.int .u8 b.toNat).toList = (s.data.toList.take n).map fun b => Value.int .u8 (.ofNat b.toNat) := by
      rw [extract_take]; simp
    rw [this]
    have ints : ∀ l : List UInt8, VRs ρ (l.map fun b => Value.int .u8 (.ofNat b.toNat)) (l.map fun b => Value.int .u8 (.ofNat b.toNat)) := by
      intro l
      induction l with
      | nil => exact .nil
      | cons x xs ih => exact .cons (.int _ _) ih
    exact ints _
  · cases e
section
variable {P : Program} {E : Env} {o : Oper} (ok : EnvOk P E) (qs : EqsOk P E)
include ok in
theorem copy_op {c : Call} {t t2 : TypeId} {x y : Operand} {r : FR} (hc : c.callee = .builtin .copy) (hat : c.argTypes.toList = [t, t2]) (ha : c.args.toList = [x, y]) (ho : o.op = .call c) : OpS P E.lo (copyOp E t (opd x) (opd y)).g r o := by
  have hex : ∀ (a : Act) w w' v', (Builtin.copy_ #[t, t2] o.type #[a.eval x, a.eval y]).run P w = .ok v' w' → Does P o a w v' w' := fun a w w' v' h => by
    obtain ⟨cs, he⟩ := call2 hc hat ha ho a
    exact does_v (s := Builtin.copy_ #[t, t2] o.type #[a.eval x, a.eval y]) (by rw [he]; rfl) h
  show OpS P E.lo (match E.und t with
    | some (.slice e) => (match E.size e with
      | some z => (⟨fun _ tm h k => known ((opd x).f tm) fun d => known ((opd y).f tm) fun s => lenV (FV.v s) fun m =>
          match FV.v d with
          | .slice none 0 0 => k (.i .i64 0) h
          | .slice (some ⟨b, o, none⟩) n _ =>
            (fun j => firstV h z j (FV.v s) fun cs => Bool.rec (writeCells E.lo h b o cs fun h' => k (.i .i64 (.ofNat j)) h') (k (.i .i64 0) h) (Nat.beq j 0)) (bif Nat.ble m n then m else n)
          | _ => none⟩ : COp)
      | none => noOp)
    | _ => noOp).g r o
  split
  · rename_i et hu
    split
    · rename_i z hs
      intro tm h k L e
      dsimp only at e
      obtain ⟨e1, e2⟩ := known_some e
      obtain ⟨e3, e4⟩ := known_some e2
      obtain ⟨m, e5, e6, e7, e8, e9⟩ := lenV_some e4
      rw [opd_f] at e1 e3 e5
      rw [opd_f] at e5 e6 e7 e8 e9
      intro ρ a w ht hr
      have hx := (ht.ev x).known_inv e1
      have hy := (ht.ev y).known_inv e3
      have hlen := e6 ρ _ hy P
      split at e5
      · rename_i hv
        rw [hv] at hx
        have hv' : a.eval x = .slice none 0 0 := by generalize a.eval x = q at hx; cases hx; rfl
        refine ⟨.i .i64 0, goInt 0, ρ, h, w, L, hex a w w _ ?_, VR.int _ _, hr, .refl _ _ _ _, e5, fun _ hx => hx⟩
        rw [hv']
        have hf : ∃ out : Array Value, (Builtin.firstCells z 0 (a.eval y)).run P w = .ok out w := by
          rcases e9 with ⟨ad, mm, cc, hq⟩ | ⟨s, hq⟩
          · rw [hq] at hy
            cases hyv : a.eval y <;> rw [hyv] at hy <;> cases hy
            · exact ⟨#[], rfl⟩
            · refine ⟨#[], ?_⟩
              show (loadCells _ (0 * z)).run P w = _
              rw [Nat.zero_mul]; rfl
          · rw [hq] at hy
            cases hyv : a.eval y <;> rw [hyv] at hy <;> cases hy
            exact ⟨_, rfl⟩
        obtain ⟨out, hf⟩ := hf
        simp [Builtin.copy_, run_und ok hu, hlen, run_size ok hs, hf]
      · rename_i b q n cc hv
        rw [hv] at hx
        cases hv' : a.eval x <;> rw [hv'] at hx <;> cases hx
        rename_i c' a' hsr
        have hmin : (bif Nat.ble m n then m else n) = Nat.min m n := by
          rw [ble_iff]
          by_cases cmn : m ≤ n
          · simp [cmn, Nat.min_eq_left cmn]
          · simp [cmn]; show n = min m n; omega
        generalize hj : (bif Nat.ble m n then m else n) = j at e5
        have hjm : j ≤ m := by rw [← hj, hmin]; exact Nat.min_le_left _ _
        have hjn : j ≤ n := by rw [← hj, hmin]; exact Nat.min_le_right _ _
        obtain ⟨out, f1, f2, f3, _, f4⟩ := firstV_some e5 (fun ad mm c2 hq => by rw [e7 _ _ _ hq]; exact hjm)
        obtain ⟨out', g1, g2⟩ := f4 P ρ w _ hr.s hy
        have hg1 := g1 w rfl
        cases hz : Nat.beq j 0 with
        | true =>
          rw [hz] at f1
          have hj0 := Nat.eq_of_beq_eq_true hz
          subst hj0
          have hout : out'.toList = [] := by
            have : out.length = 0 := by
              rcases e9 with hq | ⟨s, hq⟩
              · rw [f2 hq, Nat.zero_mul]
              · rw [f3 s hq, Nat.zero_min]
            rw [g2.length] at this
            exact List.eq_nil_of_length_eq_zero this
          refine ⟨.i .i64 0, goInt 0, ρ, h, w, L, hex a w w _ ?_, VR.int _ _, hr, .refl _ _ _ _, f1, fun _ hx => hx⟩
          rw [hv']
          simp [Builtin.copy_, run_und ok hu, hlen, run_size ok hs, ← hmin, hj, hg1, hout, storeCells]
        | false =>
          rw [hz] at f1
          have hj0 : j ≠ 0 := by rw [beq_iff] at hz; simpa using hz
          obtain ⟨h', i1, i2⟩ := writeCells_some f1
          obtain ⟨b', o', q1, q2, q3, q4, q5, q6⟩ := i2 ρ w a' _ hr (hsr.ar (by have := hsr.1; omega)) g2
          subst q1
          have hst := run_storeCells_cells (P := P) b' o' out'.toList 0 w (by simpa using q2) (by simpa using q3) q4
          refine ⟨.i .i64 (.ofNat j), goInt j, ρ, h', _, L, hex a w _ _ ?_, VR.int _ _, q5, q6, i1, fun _ hx => hx⟩
          rw [hv']
          simp [Builtin.copy_, run_und ok hu, hlen, run_size ok hs, ← hmin, hj, hg1, hst]
      · cases e5
    · exact noOp_op _ _ _
  · exact noOp_op _ _ _
end
end Go.FX
namespace Go.FX
variable [Sym]
theorem allFlat_eq : ∀ l : List Value, allFlat l = allV flat1 l
  | [] => rfl
  | x :: xs => by unfold allFlat allV; rw [allFlat_eq xs]
theorem growBy_le (need : Nat) : ∀ r c, Builtin.growBy need r c ≤ max c (need + (need + 768) / 4)
  | 0, c => Nat.le_max_left _ _
  | r + 1, c => by
    unfold Builtin.growBy
    split
    · exact Nat.le_max_left _ _
    · rename_i h
      have := growBy_le need r (c + (c + 768) / 4)
      omega
theorem next_le {need old : Nat} (h1 : old < need) (h2 : need ≤ 1000000) : Builtin.nextslicecap need old ≤ 4000000 := by
  unfold Builtin.nextslicecap
  split
  · omega
  · split
    · omega
    · have := growBy_le need 4 old
      omega
theorem next_bytes {need old bytes : Nat} (h1 : old < need) (h2 : need ≤ 1000000) (h3 : bytes ≤ 65536) : Builtin.nextslicecap need old * bytes ≤ 281474976710656 := by
  have := Nat.mul_le_mul (next_le h1 h2) h3
  omega
theorem grown_le (w : World) (need old : Nat) (e : TypeId) : need ≤ grownCap w need old e := by
  unfold grownCap
  show need ≤ need + _
  omega
theorem zero_info {P : Program} {E : Env} (ok : EnvOk P E) {t : TypeId} {i : TypeInfo} {zs : List Value} (hi : T.get E.tt t = some i) (h : E.zero t = some zs) : ∃ z, i.zero = some z ∧ z.cells.toList = zs := by
  unfold Env.zero at h
  simp only [hi] at h
  cases hz : i.zero with
  | none => simp only [hz] at h; cases h
  | some v =>
    simp only [hz] at h
    cases v with
    | agg cs =>
      simp only [] at h
      cases hc : allV (closedV 5) cs.toList with
      | false => rw [hc] at h; cases h
      | true => rw [hc] at h; cases h; exact ⟨_, rfl, rfl⟩
    | _ =>
      simp only [] at h
      generalize hb : (closedV 6 _ && flat1 _) = b at h
      cases b with
      | false => cases h
      | true =>
        cases h
        rw [Bool.and_eq_true] at hb
        first | exact ⟨_, rfl, rfl⟩ | (exact absurd hb.2 (by simp [flat1]))
/-- A block is let go, and a new one lies in its place. -/
theorem HR.rehome {ρ : Rho} {h : Heap} {w w' : World} (hr : HR ρ h w) (hn : h.nx < 2 ^ dH) {k b s : Nat} {i : Info} (hk : ρ k = .at b s i) {s2 : Nat} {i2 : Info} {B : Blk} {ob : Obj}
    (hb : w'.heap[b]? = some ob) (hne : ∀ j, j ≠ b → w'.heap[j]? = w.heap[j]?) (hB : ∀ ρ', Later ρ ρ' → BR ρ' s2 i2 B ob) : HR (upd (upd ρ k .dead) h.nx (.at b s2 i2)) ((h.kill k).made B) w' := by
  obtain ⟨B0, ob0, h1, h2, h3⟩ := hr.at hk
  have hlt := Heap.get_lt hr.wf h1
  have hf : ρ k ≠ .fresh := by rw [hk]; simp
  have hkn : k ≠ h.nx := fun e => by have := hr.nx k (by omega); rw [hk] at this; cases this
  have hfn : ρ h.nx = .fresh := hr.nx _ (Nat.le_refl _)
  have hl1 := later_kill hf
  have hl2 : Later (upd ρ k .dead) (upd (upd ρ k .dead) h.nx (.at b s2 i2)) := later_fresh (by rw [upd_ne (Ne.symm hkn)]; exact hfn)
  have hl := hl1.trans hl2
  have hwf := Heap.kill_wf hr.wf k
  have hget : ∀ j, ((h.kill k).made B).get j = if j = h.nx then some B else if j = k then none else h.get j := fun j => by
    have : (h.kill k).nx = h.nx := rfl
    rw [Heap.get_made hwf (by rw [this]; exact hn), Heap.get_kill hr.wf hlt, this]
  refine ⟨Heap.made_wf hwf B, fun j => ?_, fun j j' c s1 i1 s1' i1' e e' => ?_, fun j hj => ?_, fun j hj => ?_⟩
  · by_cases e : j = h.nx
    · subst e
      rw [upd_at]
      exact ⟨B, ob, by rw [hget, if_pos rfl], hb, hB _ hl⟩
    · rw [upd_ne e]
      by_cases e2 : j = k
      · subst e2
        rw [upd_at]
        show _ = none
        rw [hget, if_neg e, if_pos rfl]
      · rw [upd_ne e2]
        have := hr.blk j
        cases hj : ρ j with
        | fresh => trivial
        | dead => simp only [hj] at this; simp only [hget, if_neg e, if_neg e2, this]
        | «at» b' s' i' =>
          simp only [hj] at this
          obtain ⟨B1, o1, f1, f2, f3⟩ := this
          have hbb : b' ≠ b := fun eb => e2 (hr.inj j k b s' i' s i (by rw [hj, eb]) hk)
          exact ⟨B1, o1, by rw [hget, if_neg e, if_neg e2]; exact f1, by rw [hne b' hbb]; exact f2, f3.later hl⟩
  · have key : ∀ j1 s1 i1, j1 ≠ h.nx → upd (upd ρ k .dead) h.nx (.at b s2 i2) j1 = .at c s1 i1 → j1 ≠ k ∧ ρ j1 = .at c s1 i1 := fun j1 s1 i1 hne1 he => by
      rw [upd_ne hne1] at he
      by_cases e2 : j1 = k
      · subst e2; rw [upd_at] at he; cases he
      · rw [upd_ne e2] at he; exact ⟨e2, he⟩
    by_cases c1 : j = h.nx <;> by_cases c2 : j' = h.nx
    · rw [c1, c2]
    · subst c1
      rw [upd_at] at e; cases e
      obtain ⟨g1, g2⟩ := key j' _ _ c2 e'
      exact absurd (hr.inj _ _ _ _ _ _ _ g2 hk) g1
    · subst c2
      rw [upd_at] at e'; cases e'
      obtain ⟨g1, g2⟩ := key j _ _ c1 e
      exact absurd (hr.inj _ _ _ _ _ _ _ g2 hk) g1
    · obtain ⟨g1, g2⟩ := key j _ _ c1 e
      obtain ⟨g3, g4⟩ := key j' _ _ c2 e'
      exact hr.inj _ _ _ _ _ _ _ g2 g4
  · have hj' : h.nx + 1 ≤ j := hj
    rw [upd_ne (by omega), upd_ne (fun e => by have := hr.nx j (by omega); rw [e, hk] at this; cases this)]
    exact hr.nx j (by omega)
  · have hj' : h.nx + 1 ≤ j := hj
    rw [hget, if_neg (by omega)]
    split
    · rfl
    · exact hr.top j (by omega)
theorem Ext.rehome {lo : Nat} {ρ : Rho} {h : Heap} {w w' : World} (hr : HR ρ h w) (hn : h.nx < 2 ^ dH) {k b s : Nat} {i : Info} (hlo : lo ≤ k) (hk : ρ k = .at b s i) {s2 : Nat} {i2 : Info} {B : Blk}
    (hne : ∀ j, j ≠ b → w'.heap[j]? = w.heap[j]?) (hsz : w'.heap.size = w.heap.size) (ho : w'.os = w.os) (ht : w'.tape = w.tape) (hou : w'.output = w.output) :
    Ext lo ρ h w (upd (upd ρ k .dead) h.nx (.at b s2 i2)) ((h.kill k).made B) w' := by
  obtain ⟨B0, ob0, h1, h2, h3⟩ := hr.at hk
  have hlt := Heap.get_lt hr.wf h1
  have hf : ρ k ≠ .fresh := by rw [hk]; simp
  have hkn : k ≠ h.nx := fun e => by have := hr.nx k (by omega); rw [hk] at this; cases this
  have hfn : ρ h.nx = .fresh := hr.nx _ (Nat.le_refl _)
  have hwf := Heap.kill_wf hr.wf k
  have hget : ∀ j, ((h.kill k).made B).get j = if j = h.nx then some B else if j = k then none else h.get j := fun j => by
    have : (h.kill k).nx = h.nx := rfl
    rw [Heap.get_made hwf (by rw [this]; exact hn), Heap.get_kill hr.wf hlt, this]
  refine ⟨(later_kill hf).trans (later_fresh (by rw [upd_ne (Ne.symm hkn)]; exact hfn)), fun j hj e => ?_, fun j x y z hj e => ?_, Nat.le_succ _, by omega, fun x hx g => ?_, ho, ht, hou⟩
  · have c1 : j ≠ h.nx := by omega
    have c2 : j ≠ k := fun c => by subst c; exact hf e
    exact ⟨by rw [upd_ne c1, upd_ne c2]; exact e, .inl (by rw [hget, if_neg c1, if_neg c2])⟩
  · by_cases c1 : j = h.nx
    · subst c1
      rw [upd_at] at e; cases e
      exact .inr ⟨k, s, i, hlo, hk⟩
    · rw [upd_ne c1] at e
      by_cases c2 : j = k
      · subst c2; rw [upd_at] at e; cases e
      · rw [upd_ne c2] at e
        exact .inr ⟨j, y, z, hj, e⟩
  · exact hne x fun e => g k s i hlo (by rw [e]; exact hk)
end Go.FX
namespace Go.FX
variable [Sym]
section
variable {P : Program} {E : Env} {o : Oper} (ok : EnvOk P E) (qs : EqsOk P E)
/-- What is appended, as the model's law asks it. -/
theorem src_of {d : TypeDesc} {tx : TypeId} {size m : Nat} {x' : Value} {w : World} {v : Value} {out : List Value} {out' : Array Value} {ρ : Rho}
    (hd : P.underlying tx = some d) (hk : isSl d = true ∨ (isStr (some d) = true ∧ size = 1)) (hlen : ∀ P w, (Builtin.lenOf x').run P w = .ok m w)
    (hs : ∀ a n c, v = .slice a n c → n = m) (hs2 : ∀ s, v = .string s → m = s.data.toList.length) (hs3 : (∃ a n c, v = .slice a n c) ∨ ∃ s, v = .string s)
    (hl1 : (∃ a n c, v = .slice a n c) → out.length = m * size) (hl2 : ∀ s, v = .string s → out.length = min m s.data.toList.length) (hsz1 : (∃ s, v = .string s) → size = 1)
    (hf : ∀ w' : World, w'.heap = w.heap → (Builtin.firstCells size m x').run P w' = .ok out' w') (hv : VRs ρ out out'.toList) (hone : ∀ u ∈ out'.toList, u.oneCell' = true) :
    Src P size tx x' m out'.toList w where
  kind := by
    rcases hk with hk | ⟨hk, _⟩
    · cases d <;> first | exact .inl ⟨_, hd⟩ | (exact absurd hk (by simp [isSl]))
    · cases d <;> first | exact .inr hd | (exact absurd hk (by simp [isStr]))
  len := fun w' => hlen P w'
  cells := hf w rfl
  cellsD := hf w.drew rfl
  newsLen := by
    rw [← hv.length]
    rcases hs3 with h | ⟨s, h⟩
    · exact hl1 h
    · rw [hl2 s h, hs2 s h, Nat.min_self, hsz1 ⟨s, h⟩, Nat.mul_one]
  one := hone
/-- A new row behind an append. -/
theorem grown_BR {ρ : Rho} {size need cap : Nat} {z : Value} {olds news : List Value} {old new : List Value} {e : TypeId} (hzl : z.cells.size = size) (ho : VRs ρ old olds) (hn : VRs ρ new news) (hlen : (old ++ new).length = need * size) (hcap : need ≤ cap) :
    BR ρ 0 ⟨true, size, (old ++ new).length, need * size + (cap - need) * size⟩ (.cells (old ++ new) e size true) (.cells ((olds ++ news).toArray ++ Builtin.zeroCells z.cells (cap - need)) e (0, 0)) := by
  have hv := ho.append hn
  have hl := hv.length
  have hsz : ((olds ++ news).toArray ++ Builtin.zeroCells z.cells (cap - need)).size = need * size + (cap - need) * size := by
    unfold Builtin.zeroCells
    rw [Array.size_append, Array.size_map, Array.size_range, hzl]
    simp only [List.size_toArray]
    rw [← hl, hlen]
  refine ⟨_, e, 0, 0, rfl, by rw [hsz], by rw [hsz, hlen]; omega, ⟨fun _ j _ => by omega, fun _ _ => Nat.le_refl _⟩, fun j v hj => ?_⟩
  obtain ⟨v', h1, h2⟩ := hv.get j v hj
  refine ⟨v', ?_, h2⟩
  have hlt : j < (olds ++ news).length := (List.getElem?_eq_some_iff.1 h1).1
  rw [Nat.zero_add, Array.getElem?_append_left (by simpa using hlt), List.getElem?_toArray]
  exact h1
end
end Go.FX
namespace Go.FX
variable [Sym]
theorem grown_SR {ρ : Rho} {f b size need cap len : Nat} (h : ρ f = .at b 0 ⟨true, size, len, need * size + (cap - need) * size⟩) (hlen : len = need * size) (hcap : need ≤ cap) : SR ρ ⟨f, 0, none⟩ ⟨b, 0, none⟩ need need cap := by
  refine ⟨Nat.le_refl _, hcap, by rw [h]; simp, .inr ?_⟩
  simp only [h]
  refine ⟨trivial, trivial, .inr ⟨trivial, by omega, ?_⟩⟩
  rw [← Nat.add_mul]
  have : need + (cap - need) = cap := by omega
  rw [this]; omega
theorem sl_str {d : TypeDesc} (h1 : isStr (some d) = true) (h2 : isSl d = true) : False := by cases d <;> simp [isStr, isSl] at h1 h2
section
variable {P : Program} {E : Env} {o : Oper} (ok : EnvOk P E) (qs : EqsOk P E)
include ok in
/-- The arm that grows, in the model. -/
theorem grow_run {t tx ty e : TypeId} {i : TypeInfo} {zv : List Value} (ht : E.und t = some (.slice e)) (hi : T.get E.tt e = some i) (hz : E.zero e = some zv) (hby : i.bytes ≤ 65536) (hzl : zv.length = i.size) {w : World} {ρ : Rho}
    {base : Option Addr} {n c' m : Nat} {x' : Value} {old new : List Value} {olds news : Array Value} (hs : Src P i.size tx x' m news.toList w)
    (hold : ∀ w' : World, w'.heap = w.heap → (Builtin.firstCells i.size n (.slice base n c')).run P w' = .ok olds w') (hg : c' < n + m) (hnm : n + m ≤ 1000000) (ho : VRs ρ old olds.toList) (hn : VRs ρ new news.toList) (hlen : (old ++ new).length = (n + m) * i.size) :
    ∃ ob cap dr, n + m ≤ cap ∧ (∀ ρ', Later ρ ρ' → BR ρ' 0 ⟨true, i.size, (old ++ new).length, (n + m) * i.size + (cap - (n + m)) * i.size⟩ (.cells (old ++ new) e i.size true) ob) ∧
      (Builtin.append_ #[t, tx] ty #[.slice base n c', x']).run P w = .ok (.slice (some ⟨w.heap.size, 0, none⟩) (n + m) cap) { w with heap := w.heap.push ob, drawn := dr } := by
  obtain ⟨z, hz1, hz2⟩ := zero_info ok hi hz
  have hold' : (Builtin.firstCells i.size n (.slice base n c')).run P w.drew = .ok olds.toList.toArray w.drew := by rw [Array.toArray_toList]; exact hold w.drew rfl
  have hr := run_append_grow_src (P := P) w t tx ty e i z (und_ok ok ht) (ok.tt _ _ hi) hz1 base n c' olds.toList hold' x' m news.toList hs hg (by omega) (next_bytes hg hnm hby)
  refine ⟨_, grownCap w (n + m) c' e, w.drawn + 1, grown_le _ _ _ _, fun ρ' hl => ?_, hr⟩
  exact grown_BR (by rw [← Array.length_toList, hz2]; exact hzl) (ho.later hl) (hn.later hl) hlen (grown_le _ _ _ _)
include ok in
theorem append_op {c : Call} {t t2 : TypeId} {x y : Operand} {r : FR} (hc : c.callee = .builtin .append) (hat : c.argTypes.toList = [t, t2]) (ha : c.args.toList = [x, y]) (ho : o.op = .call c) : OpS P E.lo (appendOp E t t2 (opd x) (opd y)).g r o := by
  have hex : ∀ (a : Act) w w' v', (Builtin.append_ #[t, t2] o.type #[a.eval x, a.eval y]).run P w = .ok v' w' → Does P o a w v' w' := fun a w w' v' h => by
    obtain ⟨cs, he⟩ := call2 hc hat ha ho a
    exact does_v (s := Builtin.append_ #[t, t2] o.type #[a.eval x, a.eval y]) (by rw [he]; rfl) h
  show OpS P E.lo (match E.und t, E.und t2 with
    | some (.slice e), some d => bif !(isSl d || isStr (some d)) then noOp else
      (match T.get E.tt e, E.zero e with
      | some i, some zv => bif Nat.ble i.bytes 65536 && Nat.beq zv.length i.size && (isSl d || Nat.beq i.size 1) then
          (⟨fun _ tm h k => known ((opd x).f tm) fun s => known ((opd y).f tm) fun x => Bool.rec none (lenV (FV.v x) fun m => firstV h i.size m (FV.v x) fun new =>
            match FV.v s with
            | .slice none 0 0 => Bool.rec none (appendCells E.lo i e h none 0 0 m (FV.v s) new k) (Nat.ble m 1000000)
            | .slice (some ⟨b, o, none⟩) n c => Bool.rec none (appendCells E.lo i e h (some (b, o)) n c m (FV.v s) new k) (Nat.ble (Nat.add n m) 1000000)
            | _ => none) (srcOk d (FV.v x))⟩ : COp) else noOp
      | _, _ => noOp)
    | _, _ => noOp).g r o
  split
  · rename_i et d hu hd
    cases hds : !(isSl d || isStr (some d)) with
    | true => exact noOp_op _ _ _
    | false =>
    rw [cond_false]
    split
    · rename_i i zv hi hz
      cases hcs : (Nat.ble i.bytes 65536 && Nat.beq zv.length i.size && (isSl d || Nat.beq i.size 1)) with
      | false => exact noOp_op _ _ _
      | true =>
      obtain ⟨hcs1, hcs2⟩ := and_true' hcs
      obtain ⟨hcs3, hcs4⟩ := and_true' hcs1
      have hby : i.bytes ≤ 65536 := Nat.le_of_ble_eq_true hcs3
      have hzl : zv.length = i.size := Nat.eq_of_beq_eq_true hcs4
      rw [cond_true]
      intro tm h k L e
      dsimp only at e
      obtain ⟨e1, e2⟩ := known_some e
      obtain ⟨e3, e4⟩ := known_some e2
      obtain ⟨hsrc, e4⟩ := rec_true e4
      obtain ⟨m, e5, e6, e7, e8, e9⟩ := lenV_some e4
      obtain ⟨new, f1, f2, f3, _, f4⟩ := firstV_some e5 (fun ad mm c2 hq => by rw [e7 _ _ _ hq]; exact Nat.le_refl _)
      rw [opd_f] at e1 e3 f1
      rw [opd_f] at e6 e7 e8 e9 f2 f3 f4 hsrc
      intro ρ a w ht hr
      have hx := (ht.ev x).known_inv e1
      have hy := (ht.ev y).known_inv e3
      obtain ⟨news, g1, g2⟩ := f4 P ρ w _ hr.s hy
      have hstr1 : (∃ s, FV.v (ev tm y) = .string s) → isStr (some d) = true ∧ i.size = 1 := by
        rintro ⟨s, hs⟩
        rw [hs] at hsrc
        have h1 : isStr (some d) = true := hsrc
        refine ⟨h1, ?_⟩
        rw [Bool.or_eq_true] at hcs2
        rcases hcs2 with h2 | h2
        · exact (sl_str h1 h2).elim
        · exact Nat.eq_of_beq_eq_true h2
      have hkind : isSl d = true ∨ (isStr (some d) = true ∧ i.size = 1) := by
        rcases e9 with ⟨ad, mm, cc, hq⟩ | hq
        · rw [hq] at hsrc; exact .inl hsrc
        · exact .inr (hstr1 hq)
      have hnlen : new.length = m * i.size := by
        rcases e9 with hq | ⟨s, hq⟩
        · exact f2 hq
        · rw [f3 s hq, e8 s hq, Nat.min_self, (hstr1 ⟨s, hq⟩).2, Nat.mul_one]
      have src : (∀ u ∈ news.toList, u.oneCell' = true) → Src P i.size t2 (a.eval y) m news.toList w := fun hone =>
        src_of (und_ok ok hd) hkind (fun P w => e6 ρ _ hy P w) (fun _ _ _ hq => e7 _ _ _ hq) e8 e9 f2 f3 (fun hq => (hstr1 hq).2) g1 g2 hone
      split at f1
      · rename_i hv
        rw [hv] at hx
        have hv' : a.eval x = .slice none 0 0 := by generalize a.eval x = q at hx; cases hx; rfl
        obtain ⟨hm, f1⟩ := rec_true f1
        have hm' : m ≤ 1000000 := Nat.le_of_ble_eq_true hm
        unfold appendCells at f1
        cases hroom : Nat.ble (Nat.add 0 m) 0 with
        | true =>
          rw [hroom, cond_true] at f1
          have f1 : k (.o (.slice none 0 0)) h = some L := f1
          have hm0 : m = 0 := by have := Nat.le_of_ble_eq_true hroom; have h2 : Nat.add 0 m = 0 + m := rfl; omega
          subst hm0
          have hnil : news.toList = [] := by
            have := g2.length; rw [hnlen, Nat.zero_mul] at this
            exact List.eq_nil_of_length_eq_zero this.symm
          have hsrc := src (by rw [hnil]; simp)
          rw [hnil] at hsrc
          refine ⟨.o (.slice none 0 0), .slice none 0 0, ρ, h, w, L, hex a w w _ ?_, VR.sliceNil, hr, .refl _ _ _ _, f1, fun _ hx => hx⟩
          rw [hv']
          exact run_append_nothing w t t2 o.type et i (und_ok ok hu) (ok.tt _ _ hi) none 0 0 (Nat.le_refl _) _ hsrc
        | false =>
          rw [hroom, cond_false, hv] at f1
          obtain ⟨old, j1, j2, _, _, j4⟩ := firstV_some f1 (fun ad mm c2 hq => by cases hq; exact Nat.le_refl _)
          obtain ⟨hfl, j1⟩ := rec_true j1
          obtain ⟨hn, j1⟩ := Heap.new_eq j1
          obtain ⟨hfl1, hfl2⟩ := and_true' hfl
          rw [allFlat_eq] at hfl1 hfl2
          obtain ⟨olds, k1, k2⟩ := j4 P ρ w _ hr.s hx
          rw [hv'] at k1
          have hsrc := src (flats_one g2 hfl2)
          have hlen : (old ++ new).length = (0 + m) * i.size := by rw [List.length_append, j2 ⟨_, _, _, rfl⟩, hnlen, Nat.zero_mul]; simp
          have hg : 0 < 0 + m := by
            rcases Nat.eq_zero_or_pos m with hm0 | hm0
            · subst hm0; cases hroom
            · omega
          obtain ⟨ob, cap, dr, l1, l2, l3⟩ := grow_run ok hu hi hz hby hzl (base := none) (ty := o.type) hsrc k1 hg (by omega) k2 g2 hlen
          refine ⟨.s h.nx 0 (Nat.add 0 m) (Nat.add 0 m), .slice (some ⟨w.heap.size, 0, none⟩) (0 + m) cap, _, _, { w with heap := w.heap.push ob, drawn := dr }, L, hex a w _ _ (by rw [hv']; exact l3), .of (.slice (grown_SR (upd_at _ _ _) hlen l1)), hr.make hn rfl (l2 ρ (.refl ρ)), Ext.make hr hn rfl rfl rfl rfl, j1, fun _ hx => hx⟩
      · rename_i b q n cc hv
        rw [hv] at hx f1
        cases hv' : a.eval x <;> rw [hv'] at hx <;> cases hx
        rename_i c' a1 hs
        obtain ⟨hnm0, f1⟩ := rec_true f1
        have hnm : n + m ≤ 1000000 := Nat.le_of_ble_eq_true hnm0
        have hncc : n ≤ cc := hs.1
        have hccc : cc ≤ c' := hs.2.1
        unfold appendCells at f1
        cases hroom : Nat.ble (Nat.add n m) cc with
        | true =>
          rw [hroom, cond_true] at f1
          have hle : n + m ≤ cc := Nat.le_of_ble_eq_true hroom
          have f1 : (Bool.rec (writeCells E.lo h b (Nat.add q (Nat.mul n i.size)) new fun h' => k (.s b q (Nat.add n m) cc) h') (k (.s b q n cc) h) (Nat.beq m 0) : R) = some L := f1
          cases hm : Nat.beq m 0 with
          | true =>
            rw [hm] at f1
            have hm0 := Nat.eq_of_beq_eq_true hm
            subst hm0
            have hnil : news.toList = [] := by
              have := g2.length; rw [hnlen, Nat.zero_mul] at this
              exact List.eq_nil_of_length_eq_zero this.symm
            have hsrc := src (by rw [hnil]; simp)
            rw [hnil] at hsrc
            refine ⟨.s b q n cc, .slice (some a1) n c', ρ, h, w, L, hex a w w _ ?_, VR.slice hs, hr, .refl _ _ _ _, f1, fun _ hx => hx⟩
            rw [hv']
            exact run_append_nothing w t t2 o.type et i (und_ok ok hu) (ok.tt _ _ hi) (some a1) n c' (by omega) _ hsrc
          | false =>
            rw [hm] at f1
            have hm0 : m ≠ 0 := by rw [beq_iff] at hm; simpa using hm
            have har := hs.ar (by omega)
            have hget : ∃ vs t z l, h.get b = some (.cells vs t z l) := by
              unfold writeCells at f1
              obtain ⟨_, f1⟩ := rec_true f1
              obtain ⟨vs, t, z, l, hh, _⟩ := withCells_some f1
              exact ⟨vs, t, z, l, hh⟩
            obtain ⟨vs, t', z', l, hget⟩ := hget
            obtain ⟨bb, s, inf, rc, ct, flo, fhi, q1, q2, _⟩ := cell_at hr.s har hget
            subst q2
            obtain ⟨h', i1, i2⟩ := writeCells_some f1
            obtain ⟨b', o', p1, p2, p3, p4, p5, p6⟩ := i2 ρ w _ _ hr (har.add (n * i.size)) g2
            rw [add_none] at p1
            cases p1
            refine ⟨.s b q (Nat.add n m) cc, .slice (some ⟨bb, q + s, none⟩) (n + m) c', ρ, h', _, L, hex a w _ _ ?_, VR.slice ⟨hle, hccc, hs.2.2⟩, p5, p6, i1, fun _ hx => hx⟩
            rw [hv']
            exact run_append_room_src w t t2 o.type et i (und_ok ok hu) (ok.tt _ _ hi) bb (q + s) n c' _ m news.toList (src p4) (by omega) p2 p3
        | false =>
          rw [hroom, cond_false] at f1
          have hle : cc < n + m := by
            rw [ble_iff] at hroom
            have h2 : Nat.add n m = n + m := rfl
            rw [h2] at hroom
            simpa using hroom
          obtain ⟨old, j1, j2, _, j3, j4⟩ := firstV_some f1 (fun ad mm c2 hq => by cases hq; exact Nat.le_refl _)
          obtain ⟨hfl, j1⟩ := rec_true j1
          obtain ⟨hfl1, hfl2⟩ := and_true' hfl
          rw [allFlat_eq] at hfl1 hfl2
          have hsrc := src (flats_one g2 hfl2)
          have holen : old.length = n * i.size := j2 ⟨_, _, _, rfl⟩
          have hlen : (old ++ new).length = (n + m) * i.size := by rw [List.length_append, holen, hnlen, Nat.add_mul]
          obtain ⟨olds, k1, k2⟩ := j4 P ρ w _ hr.s (VR.slice hs)
          have grow := fun hg => grow_run (ρ := ρ) ok hu hi hz hby hzl (base := some a1) (c' := c') (ty := o.type) hsrc k1 hg hnm k2 g2 hlen
          have plain : c' = cc → Heap.new h (.cells (old ++ new) et i.size true) (fun f h' => k (.s f 0 (Nat.add n m) (Nat.add n m)) h') = some L → ∃ v v' ρ' h' w' L', Does P o a w v' w' ∧ FVR ρ' v v' ∧ HR ρ' h' w' ∧ Ext E.lo ρ h w ρ' h' w' ∧ k v h' = some L' ∧ ∀ x ∈ L', x ∈ L := by
            intro hcc j1
            obtain ⟨hn, j1⟩ := Heap.new_eq j1
            obtain ⟨ob, cap, dr, l1, l2, l3⟩ := grow (by omega)
            exact ⟨.s h.nx 0 (Nat.add n m) (Nat.add n m), .slice (some ⟨w.heap.size, 0, none⟩) (n + m) cap, _, _, { w with heap := w.heap.push ob, drawn := dr }, L, hex a w _ _ (by rw [hv']; exact l3), .of (.slice (grown_SR (upd_at _ _ _) hlen l1)), hr.make hn rfl (l2 ρ (.refl ρ)), Ext.make hr hn rfl rfl rfl rfl, j1, fun _ hx => hx⟩
          have j1 : (match Heap.get h b with
            | some (.cells vs _ z l) =>
              bif l then
                Bool.rec none (bif Nat.beq (Nat.add q (Nat.mul cc i.size)) vs.length then
                  Bool.rec none (Heap.new (Heap.kill h b) (.cells (old ++ new) et i.size true) fun f h' => k (.s f 0 (Nat.add n m) (Nat.add n m)) h') (Nat.ble E.lo b)
                  else Heap.new h (.cells (old ++ new) et i.size true) fun f h' => k (.s f 0 (Nat.add n m) (Nat.add n m)) h') (Nat.beq z i.size)
              else Heap.new h (.cells (old ++ new) et i.size true) fun f h' => k (.s f 0 (Nat.add n m) (Nat.add n m)) h'
            | _ => none) = some L := j1
          split at j1
          · rename_i vs t' z l hget
            obtain ⟨bb, s, inf, ob0, q1, q2, q3⟩ := hr.live hget hs.2.2.1
            obtain ⟨rc, ct, flo, fhi, r1, r2, r3, r4, r5⟩ := q3
            subst r2
            have halt := hs.2.2.2
            simp only [q1] at halt
            cases l with
            | false =>
              rw [cond_false] at j1
              refine plain ?_ j1
              rcases halt with h0 | ⟨_, _, h0 | ⟨h0, _⟩⟩
              · omega
              · exact h0
              · cases h0
            | true =>
              rw [cond_true] at j1
              obtain ⟨hz0, j5⟩ := rec_true j1
              have hzs : z = i.size := Nat.eq_of_beq_eq_true hz0
              subst hzs
              cases hend : Nat.beq (Nat.add q (Nat.mul cc i.size)) vs.length with
              | false =>
                rw [hend, cond_false] at j5
                refine plain ?_ j5
                have hend' : ¬ q + cc * i.size = vs.length := by rw [beq_iff] at hend; simpa using hend
                rcases halt with h0 | ⟨_, _, h0 | ⟨_, h0, _⟩⟩
                · omega
                · exact h0
                · exact absurd h0 hend'
              | true =>
                rw [hend, cond_true] at j5
                have hend' : q + cc * i.size = vs.length := Nat.eq_of_beq_eq_true hend
                obtain ⟨hlo0, j6⟩ := rec_true j5
                have hlo : E.lo ≤ b := Nat.le_of_ble_eq_true hlo0
                obtain ⟨hn, j7⟩ := Heap.new_eq j6
                have hn : h.nx < 2 ^ dH := hn
                by_cases hreal : n + m ≤ c'
                · have hc0 : ¬ (cc = 0 ∧ c' = 0) := by omega
                  rcases halt with h0 | ⟨_, ha1, hcap⟩
                  · exact absurd h0 hc0
                  have htot : q + s + c' * i.size ≤ rc.size := by
                    rcases hcap with h0 | ⟨_, _, h0⟩
                    · subst h0
                      omega
                    · exact h0
                  have hmul : (n + m) * i.size ≤ c' * i.size := Nat.mul_le_mul_right _ hreal
                  have hsplit : (n + m) * i.size = n * i.size + m * i.size := Nat.add_mul _ _ _
                  have hnl : news.toList.length = m * i.size := by rw [← g2.length]; exact hnlen
                  rw [r1] at q2
                  obtain ⟨c2, u1, u2, u3, u4, u5, u6⟩ := setCells_heap bb news.toList (q + s + n * i.size) w rc ct (flo, fhi) q2 (by omega)
                  have hc2 : c2.size = rc.size := by
                    rw [← Array.length_toList, u1]
                    have : rc.toList.length = rc.size := Array.length_toList
                    simp only [List.length_append, List.length_take, List.length_drop]
                    omega
                  have hrun := run_append_room_src w t t2 o.type et i (und_ok ok hu) (ok.tt _ _ hi) bb (q + s) n c' _ m news.toList hsrc hreal
                    (fun j hj => by rw [cell_of q2, Array.getElem?_eq_getElem (by omega)]; rfl) (fun j hj => World.frozen_of q2 (r4.1 (.inl rfl) _ (by omega)))
                  have hB : ∀ ρ', Later ρ ρ' → BR ρ' (q + s) ⟨true, i.size, (old ++ new).length, rc.size⟩ (.cells (old ++ new) et i.size true) (.cells c2 ct (flo, fhi)) := by
                    intro ρ' hl
                    refine ⟨c2, ct, flo, fhi, rfl, by rw [hc2], by rw [hc2, hlen]; omega, ⟨fun h j hj => r4.1 h j (by omega), fun c => (by cases c)⟩, fun j v hj => ?_⟩
                    rw [← Array.getElem?_toList, u1, get_over rc.toList news.toList (q + s + n * i.size) (q + s + j) (by have : rc.toList.length = rc.size := Array.length_toList; omega)]
                    by_cases cj : j < n * i.size
                    · rw [if_pos (by omega)]
                      rw [List.getElem?_append_left (by omega)] at hj
                      have hn0 : n ≠ 0 := by intro h0; subst h0; simp at cj
                      obtain ⟨vs2, t2', z2, l2, hg2, _, hold⟩ := j3 hn0 b q n cc rfl
                      rw [hget] at hg2; cases hg2
                      rw [hold, List.getElem?_take, if_pos cj, List.getElem?_drop] at hj
                      obtain ⟨v', w1, w2⟩ := r5 _ v hj
                      refine ⟨v', ?_, w2.later hl⟩
                      rw [Array.getElem?_toList, ← w1]
                      congr 1
                      omega
                    · rw [if_neg (by omega)]
                      rw [List.getElem?_append_right (by omega), holen] at hj
                      obtain ⟨v', w1, w2⟩ := g2.get _ v hj
                      have hjl : j - n * i.size < news.toList.length := (List.getElem?_eq_some_iff.1 w1).1
                      rw [if_pos (by omega)]
                      refine ⟨v', ?_, w2.later hl⟩
                      rw [← w1]
                      congr 1
                      omega
                  refine ⟨.s h.nx 0 (Nat.add n m) (Nat.add n m), .slice (some ⟨bb, q + s, none⟩) (n + m) c', _, _, w.setCells bb (q + s + n * i.size) news.toList, L, hex a w _ _ (by rw [hv', ha1]; exact hrun), ?_,
                    hr.rehome hn q1 (s2 := q + s) (i2 := ⟨true, i.size, (old ++ new).length, rc.size⟩) (by rw [u2, if_pos rfl]) (fun j hj => by rw [u2, if_neg hj]) hB, Ext.rehome hr hn hlo q1 (fun j hj => by rw [u2, if_neg hj]) u3 u4 u5 u6, j7, fun _ hx => hx⟩
                  refine .of (.slice ⟨Nat.le_refl _, hreal, by rw [upd_at]; simp, .inr ?_⟩)
                  simp only [upd_at]
                  refine ⟨trivial, by rw [Nat.zero_add], .inr ⟨trivial, by rw [Nat.zero_add]; exact hlen.symm, by omega⟩⟩
                · obtain ⟨ob, cap, dr, l1, l2, l3⟩ := grow (by omega)
                  have hf : ρ b ≠ .fresh := hs.2.2.1
                  have hlt := Heap.get_lt hr.wf hget
                  have hk := hr.kill hf hlt
                  have hek : Ext E.lo ρ h w (upd ρ b .dead) (h.kill b) w := Ext.kill hr hf hlt
                  exact ⟨.s h.nx 0 (Nat.add n m) (Nat.add n m), .slice (some ⟨w.heap.size, 0, none⟩) (n + m) cap, _, _, { w with heap := w.heap.push ob, drawn := dr }, L, hex a w _ _ (by rw [hv']; exact l3),
                    .of (.slice (grown_SR (upd_at _ _ _) hlen l1)), hk.make hn rfl (l2 _ (later_kill hf)), hek.trans (Ext.make hk hn rfl rfl rfl rfl), j7, fun _ hx => hx⟩
          · cases j1
      · cases f1
    · exact noOp_op _ _ _
  · exact noOp_op _ _ _
end
end Go.FX
namespace Go.FX
variable [Sym]
def isCallOp : Op → Bool
  | .call c => (match c.callee with | .value _ | .invoke _ _ => true | _ => false)
  | _ => false
section
variable {P : Program} {E : Env} {o : Oper} (ok : EnvOk P E) (qs : EqsOk P E)
theorem none_op {lo : Nat} {r : FR} {g : FR → Tm → Heap → K → R} (h : g = noOp.g) : OpS P lo g r o := by rw [h]; exact noOp_op _ _ _
/-- What is known of an operation, by its kind. -/
def KindS (P : Program) (E : Env) (r : FR) (o : Oper) : Prop :=
  match kindOf E o.op with
  | 0 => PureS P (compOp E o.op).g o
  | 1 => ReadS P (compOp E o.op).g o
  | 2 => MakeS P (compOp E o.op).g o
  | _ => isCallOp o.op = true ∨ OpS P E.lo (compOp E o.op).g r o
include ok in
theorem convert_kind {s d : TypeId} {x : Operand} (ho : o.op = .convert s d x) : (∀ e, E.und d ≠ some (.slice e)) → PureS P (convertOp E s d (opd x)).g o := by
  intro hne
  unfold convertOp
  cases hs : (E.und s).isNone with
  | true => exact noOp_pure P o
  | false =>
    rw [cond_false]
    obtain ⟨ds, hds⟩ : ∃ ds, E.und s = some ds := by cases h : E.und s <;> simp [h] at hs ⊢
    split
    · rename_i i hd; exact conv_int_pure ok hds hd ho
    · rename_i hd; exact conv_str_pure ok hds hd ho
    · rename_i e hd; exact absurd hd (hne e)
    · exact noOp_pure P o
include ok in
theorem convert_make {s d e : TypeId} {x : Operand} (ho : o.op = .convert s d x) (hd : E.und d = some (.slice e)) : MakeS P (convertOp E s d (opd x)).g o := by
  unfold convertOp
  cases hs : (E.und s).isNone with
  | true => exact noOp_make P o
  | false =>
    rw [cond_false]
    simp only [hd]
    exact bytes_make ok (by intro h; rw [h] at hs; cases hs) hd ho
theorem s2ap_kind {t : TypeId} {x : Operand} (ok : EnvOk P E) (ho : o.op = .sliceToArrayPointer t x) : PureS P (compOp E (.sliceToArrayPointer t x)).g o := by
  show PureS P (match opd x, E.und t with
    | ⟨f⟩, some (.array n _) => (⟨fun _ tm h k => asSlice (f tm) fun b o l _ => Bool.rec none (k (.p b o) h) (Nat.ble n l && !Nat.beq l 0)⟩ : COp)
    | _, _ => noOp).g o
  have hp := fun n e hu => s2ap_pure (P := P) (E := E) (n := n) (e := e) ok hu ho
  generalize hf : opd x = f at hp
  obtain ⟨f⟩ := f
  split
  · rename_i f' n e hu he
    cases hu
    exact hp _ _ he
  · exact noOp_pure P o
theorem iface_kind {t : TypeId} {x : Operand} (ok : EnvOk P E) (ho : o.op = .makeInterface t x) : PureS P (compOp E (.makeInterface t x)).g o := by
  show PureS P (match opd x, E.und t with
    | _, some (.interface _) => noOp
    | ⟨f⟩, some _ => (⟨fun _ tm h k => known (f tm) fun v => k (.o (.iface t (FV.v v))) h⟩ : COp)
    | _, none => noOp).g o
  have hp := fun d hu hd => iface_pure (P := P) (E := E) (d := d) ok hu hd ho
  generalize hf : opd x = f at hp
  obtain ⟨f⟩ := f
  cases hu : E.und t with
  | none => exact noOp_pure P o
  | some d => cases d with
    | interface m => exact noOp_pure P o
    | _ => exact hp _ hu (fun m h => by cases h)
theorem makeFunc_kind {fn : Fn} {xs ys : Array Operand} (ho : o.op = .makeFunc fn xs ys) : PureS P (compOp E (.makeFunc fn xs ys)).g o := by
  have hp := fun hf => makeFunc_pure (P := P) (fn := fn) (xs := xs) (ys := ys) hf ho
  cases fn with
  | yield l => exact noOp_pure P o
  | _ => exact hp (fun l h => by cases h)
include ok in
theorem range_kind {t : TypeId} {x : Operand} {r : FR} (ho : o.op = .range t x) : match kindOf E (.range t x) with
  | 0 => PureS P (compOp E (.range t x)).g o
  | 1 => ReadS P (compOp E (.range t x)).g o
  | 2 => MakeS P (compOp E (.range t x)).g o
  | _ => isCallOp (.range t x) = true ∨ OpS P E.lo (compOp E (.range t x)).g r o := by
  show match (match E.und t with | some .string => 2 | _ => 3) with
  | 0 => PureS P (rangeOp E t (opd x)).g o
  | 1 => ReadS P (rangeOp E t (opd x)).g o
  | 2 => MakeS P (rangeOp E t (opd x)).g o
  | _ => isCallOp (.range t x) = true ∨ OpS P E.lo (rangeOp E t (opd x)).g r o
  cases hu : E.und t with
  | none =>
    refine .inr ?_
    unfold rangeOp
    simp only [hu]
    exact noOp_op _ _ _
  | some d =>
    cases d with
    | string => exact range_make ok hu ho
    | map kt et => exact .inr (rangeMap_op ok hu ho)
    | _ =>
      refine .inr ?_
      unfold rangeOp
      simp only [hu]
      exact noOp_op _ _ _
include ok in
theorem call_kind {c : Call} {r : FR} (ho : o.op = .call c) : match kindOf E (.call c) with
  | 0 => PureS P (compOp E (.call c)).g o
  | 1 => ReadS P (compOp E (.call c)).g o
  | 2 => MakeS P (compOp E (.call c)).g o
  | _ => isCallOp (.call c) = true ∨ OpS P E.lo (compOp E (.call c)).g r o := by
  cases hc : c.callee with
  | value f =>
    have : kindOf E (.call c) = 3 := by simp only [kindOf, hc]
    rw [this]
    exact .inl (by simp only [isCallOp, hc])
  | invoke x name =>
    have : kindOf E (.call c) = 3 := by simp only [kindOf, hc]
    rw [this]
    exact .inl (by simp only [isCallOp, hc])
  | builtin b =>
    have hcomp : compOp E (.call c) = callOp E c := rfl
    by_cases hlen : b = .len
    · subst hlen
      rw [hcomp]
      unfold callOp
      simp only [hc]
      cases hat : c.argTypes.toList with
      | nil =>
        have : kindOf E (.call c) = 0 := by simp only [kindOf, hc, hat]
        rw [this]; exact noOp_pure P o
      | cons t ts =>
        cases ts with
        | cons t2 ts =>
          have : kindOf E (.call c) = 0 := by simp only [kindOf, hc, hat]
          rw [this]; exact noOp_pure P o
        | nil =>
          have fin : ∀ (G : COp), (ReadS P G.g o ∧ ((∀ k e, E.und t ≠ some (.map k e)) → PureS P G.g o)) → match kindOf E (.call c) with
              | 0 => PureS P G.g o
              | 1 => ReadS P G.g o
              | 2 => MakeS P G.g o
              | _ => isCallOp (.call c) = true ∨ OpS P E.lo G.g r o := by
            intro G hG
            by_cases hm : ∃ k e, E.und t = some (.map k e)
            · obtain ⟨k, e, hm⟩ := hm
              have : kindOf E (.call c) = 1 := by simp only [kindOf, hc, hat, hm]
              rw [this]; exact hG.1
            · have : kindOf E (.call c) = 0 := by
                simp only [kindOf, hc, hat]
                split
                · rename_i k e he; exact absurd ⟨k, e, he⟩ hm
                · rfl
              rw [this]; exact hG.2 fun k e he => hm ⟨k, e, he⟩
          cases haa : c.args.toList with
          | nil => exact fin noOp ⟨noOp_read P o, fun _ => noOp_pure P o⟩
          | cons x xs =>
            cases xs with
            | cons y ys => exact fin noOp ⟨noOp_read P o, fun _ => noOp_pure P o⟩
            | nil => exact fin _ (len_read ok hc hat haa ho)
    · obtain ⟨G, hG⟩ : ∃ G : COp, G = (match (generalizing := false) b, c.argTypes.toList, c.args.toList with
        | .len, [t], [x] => lenOp E t (opd x)
        | .max, _, [x, y] => minMax true (opd x) (opd y)
        | .min, _, [x, y] => minMax false (opd x) (opd y)
        | .append, [s, t], [x, y] => appendOp E s t (opd x) (opd y)
        | .copy, [t, _], [x, y] => copyOp E t (opd x) (opd y)
        | .clear, [t], [x] => clearOp E t (opd x)
        | _, _, _ => noOp) := ⟨_, rfl⟩
      have hcall : callOp E c = G := by
        rw [hG]
        unfold callOp
        simp only [hc]
        rfl
      rw [hcomp, hcall]
      split at hG
      · exact absurd rfl hlen
      · subst hG
        have : kindOf E (.call c) = 0 := by simp only [kindOf, hc]
        rw [this]
        rename_i x y hxy _
        exact minMax_pure (max := true) (by rw [hc]; rfl) (by assumption) ho
      · subst hG
        have : kindOf E (.call c) = 0 := by simp only [kindOf, hc]
        rw [this]
        exact minMax_pure (max := false) (by rw [hc]; rfl) (by assumption) ho
      · subst hG
        have : kindOf E (.call c) = 3 := by simp only [kindOf, hc]
        rw [this]
        exact .inr (append_op ok hc (by assumption) (by assumption) ho)
      · subst hG
        have : kindOf E (.call c) = 3 := by simp only [kindOf, hc]
        rw [this]
        exact .inr (copy_op ok hc (by assumption) (by assumption) ho)
      · subst hG
        have : kindOf E (.call c) = 3 := by simp only [kindOf, hc]
        rw [this]
        exact .inr (clear_op ok hc (by assumption) (by assumption) ho)
      · subst hG
        split
        · exact noOp_pure P o
        · exact noOp_read P o
        · exact noOp_make P o
        · exact .inr (noOp_op _ _ _)
include ok qs in
theorem kind_sound (r : FR) : KindS P E r o := by
  unfold KindS
  cases ho : o.op with
  | move x => exact move_pure (.inl ho)
  | assign x => exact move_pure (.inr ho)
  | pick c a b => exact pick_pure ho
  | extract x i => exact extract_pure ho
  | binOp op t x y yt => exact binOp_pure ok qs ho
  | unOp op t x => exact unOp_pure ho
  | convert s d x =>
    show match (match E.und d with | some (.slice _) => 2 | _ => 0) with
      | 0 => PureS P (convertOp E s d (opd x)).g o
      | 1 => ReadS P (convertOp E s d (opd x)).g o
      | 2 => MakeS P (convertOp E s d (opd x)).g o
      | _ => isCallOp (.convert s d x) = true ∨ OpS P E.lo (convertOp E s d (opd x)).g r o
    by_cases h : ∃ e, E.und d = some (.slice e)
    · obtain ⟨e, h⟩ := h
      rw [h]
      exact convert_make ok ho h
    · have hk : (match E.und d with | some (.slice _) => 2 | _ => 0) = 0 := by
        split
        · rename_i e he; exact absurd ⟨e, he⟩ h
        · rfl
      rw [hk]
      exact convert_kind ok ho fun e he => h ⟨e, he⟩
  | nilCheck x => exact nil_pure ho
  | field t x i => exact field_pure ok ho
  | index t x i => exact index_pure ok ho
  | fieldAddr t x i => exact fieldAddr_pure ok ho
  | indexAddr t x i => exact indexAddr_pure ok ho
  | slice t x lo hi mx => exact slice_read ok ho
  | build t ps => exact build_pure ok ho
  | typeAssert x s t b => exact assert_pure ok ho
  | load t a => exact load_read ok ho
  | lookup t m x b => exact lookup_read ok qs ho
  | entry x => exact entry_read ho
  | alloc t => exact alloc_make ok ho
  | box t x => exact box_make ho
  | makeMap t x => exact makeMap_make ok ho
  | buildSlice t n ps => exact buildSlice_make ok ho
  | makeSlice t l c => exact makeSlice_make ok ho
  | store t a x => exact .inr (store_op ok ho)
  | mapUpdate t m x y => exact .inr (mapUpdate_op ok qs (.inl ho))
  | insert t m x y => exact .inr (mapUpdate_op ok qs (.inr ho))
  | next x b => cases b with
    | true => exact .inr (nextStr_op ho)
    | false => exact .inr (nextMap_op ho)
  | sliceToArrayPointer t x => exact s2ap_kind ok ho
  | makeInterface t x => exact iface_kind ok ho
  | makeFunc fn xs ys => exact makeFunc_kind ho
  | range t x => exact range_kind ok ho
  | call c => exact call_kind ok ho
  | _ => exact noOp_pure P o
end
end Go.FX
