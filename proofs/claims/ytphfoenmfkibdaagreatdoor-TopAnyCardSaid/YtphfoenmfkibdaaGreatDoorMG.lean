/- Code, functions and the whole quick machine, sound. -/
import Derived.Test.YtphfoenmfkibdaaGreatDoorMF
import Derived.LoopNIn
set_option linter.unusedSectionVars false
set_option linter.unusedVariables false
set_option linter.unusedSimpArgs false
set_option maxRecDepth 1000000
namespace Go.FX
variable [Sym]
/-- The marks of loops over functions. -/
def DsR (ρ : Rho) (ds : List Nat) (defers : List Deferred) : Prop := All2 (fun d d' => ∃ r, d' = { target := .collected r, args := #[] } ∧ MR ρ d r) ds defers
theorem DsR.later {ρ ρ' : Rho} (hl : Later ρ ρ') {ds : List Nat} {defers : List Deferred} (h : DsR ρ ds defers) : DsR ρ' ds defers := h.imp fun _ _ ⟨r, e, m⟩ => ⟨r, e, m.later hl⟩
def CPost (lo n : Nat) (k : KC) (L : List (FV × Heap)) (ρ : Rho) (h : Heap) (w : World) : Exit → Act → World → Prop := fun e a' w' =>
  ∃ ex tm' ds' ρ' h' L', ExR ex e ∧ TR ρ' tm' a'.tmps ∧ a'.tmps.size = n ∧ DsR ρ' ds' a'.defers ∧ HR ρ' h' w' ∧ Ext lo ρ h w ρ' h' w' ∧ k ex tm' ds' h' = some L' ∧ ∀ x ∈ L', x ∈ L
theorem CPost.from {lo n : Nat} {k : KC} {L L1 : List (FV × Heap)} {ρ ρ1 : Rho} {h h1 : Heap} {w w1 : World} (hx : Ext lo ρ h w ρ1 h1 w1) (hl : ∀ x ∈ L1, x ∈ L) {e : Exit} {a' : Act} {w' : World} (hc : CPost lo n k L1 ρ1 h1 w1 e a' w') : CPost lo n k L ρ h w e a' w' := by
  obtain ⟨ex, tm', ds', ρ', h', L', q1, q2, q3, q4, q5, q6, q7, q8⟩ := hc
  exact ⟨ex, tm', ds', ρ', h', L', q1, q2, q3, q4, q5, hx.trans q6, q7, fun x hx => hl x (q8 x hx)⟩
section
variable {P : Program} {E : Env} (ok : EnvOk P E) (qs : EqsOk P E) {r : FR} (fr : FRok P E.lo r)
def CodeS (P : Program) (E : Env) (r : FR) (n : Nat) (top : Bool) (g : FR → Tm → List Nat → Heap → KC → R) (c : Code) : Prop :=
  ∀ tm ds h k L, g r tm ds h k = some L → ∀ ro m ρ (a : Act) w, (top = true → ro = none) → TR ρ tm a.tmps → a.tmps.size = n → DsR ρ ds a.defers → HR ρ h w → c.wpIn (fence ro) m P (CPost E.lo n k L ρ h w) a w
theorem none_code (n : Nat) (top : Bool) (c : Code) : CodeS P E r n top (fun _ _ _ _ _ => none) c := fun _ _ _ _ _ e => by cases e
theorem seq_code {n : Nat} {top : Bool} {f g : FR → Tm → List Nat → Heap → KC → R} {x y : Code} (hx : CodeS P E r n top f x) (hy : CodeS P E r n top g y) :
    CodeS P E r n top (fun r tm ds h k => f r tm ds h fun e tm ds h => Ex.rec (g r tm ds h k) (fun id => k (.exit id) tm ds h) (k .ret tm ds h) e) (.seq x y) := by
  intro tm ds h k L e ro m ρ a w htop ht hn hd hr
  refine wpIn_seq (wpIn_mono (hx tm ds h _ L e ro m ρ a w htop ht hn hd hr) ?_)
  rintro e1 a1 w1 ⟨ex, tm', ds', ρ', h', L', q1, q2, q3, q4, q5, q6, q7, q8⟩
  cases ex with
  | normal =>
    cases q1
    exact wpIn_mono (hy tm' ds' h' k L' q7 ro m ρ' a1 w1 htop q2 q3 q4 q5) fun _ _ _ hc => hc.from q6 q8
  | exit id => cases q1; exact ⟨.exit id, tm', ds', ρ', h', L', rfl, q2, q3, q4, q5, q6, q7, q8⟩
  | ret => cases q1; exact ⟨.ret, tm', ds', ρ', h', L', rfl, q2, q3, q4, q5, q6, q7, q8⟩
theorem cond_code {n : Nat} {top : Bool} {f g : FR → Tm → List Nat → Heap → KC → R} {c : Operand} {x y : Code} (hx : CodeS P E r n top f x) (hy : CodeS P E r n top g y) :
    CodeS P E r n top (fun r tm ds h k => asBool ((opd c).f tm) fun t => Bool.rec (g r tm ds h k) (f r tm ds h k) t) (.cond c x y) := by
  intro tm ds h k L e ro m ρ a w htop ht hn hd hr
  obtain ⟨t, e1, e2⟩ := asBool_some e
  rw [opd_f] at e1
  have hb := ht.ev c; rw [e1] at hb
  cases t with
  | true => exact wpIn_cond_true hb.b_inv (hx tm ds h k L e2 ro m ρ a w htop ht hn hd hr)
  | false => exact wpIn_cond_false hb.b_inv (hy tm ds h k L e2 ro m ρ a w htop ht hn hd hr)
theorem block_code {n : Nat} {top : Bool} {f : FR → Tm → List Nat → Heap → KC → R} {id : Nat} {x : Code} (hx : CodeS P E r n top f x) :
    CodeS P E r n top (fun r tm ds h k => f r tm ds h fun e tm ds h => Ex.rec (k .normal tm ds h) (fun j => Bool.rec (k (.exit j) tm ds h) (k .normal tm ds h) (Nat.beq j id)) (k .ret tm ds h) e) (.block id x) := by
  intro tm ds h k L e ro m ρ a w htop ht hn hd hr
  refine wpIn_block (wpIn_mono (hx tm ds h _ L e ro m ρ a w htop ht hn hd hr) ?_)
  rintro e1 a1 w1 ⟨ex, tm', ds', ρ', h', L', q1, q2, q3, q4, q5, q6, q7, q8⟩
  cases ex with
  | normal => cases q1; exact ⟨.normal, tm', ds', ρ', h', L', rfl, q2, q3, q4, q5, q6, q7, q8⟩
  | exit j =>
    cases q1
    show if j = id then _ else _
    have q7' : (Bool.rec (k (.exit j) tm' ds' h') (k .normal tm' ds' h') (Nat.beq j id) : R) = some L' := q7
    cases hb : Nat.beq j id with
    | true =>
      rw [hb] at q7'
      rw [if_pos (Nat.eq_of_beq_eq_true hb)]
      exact ⟨.normal, tm', ds', ρ', h', L', rfl, q2, q3, q4, q5, q6, q7', q8⟩
    | false =>
      rw [hb] at q7'
      rw [if_neg (Nat.ne_of_beq_eq_false hb)]
      exact ⟨.exit j, tm', ds', ρ', h', L', rfl, q2, q3, q4, q5, q6, q7', q8⟩
  | ret => cases q1; exact ⟨.ret, tm', ds', ρ', h', L', rfl, q2, q3, q4, q5, q6, q7, q8⟩
theorem loop_rounds {n : Nat} {top : Bool} {f : FR → Tm → List Nat → Heap → KC → R} {x : Code} (hx : CodeS P E r n top f x) : ∀ (j : Nat) tm ds h k L, rounds j f r tm ds h k = some L → ∀ ro m ρ (a : Act) w, (top = true → ro = none) → TR ρ tm a.tmps → a.tmps.size = n → DsR ρ ds a.defers → HR ρ h w →
    ∀ ρ0 h0 w0 L0, Ext E.lo ρ0 h0 w0 ρ h w → (∀ x ∈ L, x ∈ L0) → Code.roundsIn (fence ro) m P x (CPost E.lo n k L0 ρ0 h0 w0) j a w
  | 0, tm, ds, h, k, L, e => by cases e
  | j + 1, tm, ds, h, k, L, e => by
    intro ro m ρ a w htop ht hn hd hr ρ0 h0 w0 L0 hxt hl
    have e' : f r tm ds h (fun e tm ds h => Ex.rec (rounds j f r tm ds h k) (fun id => k (.exit id) tm ds h) (k .ret tm ds h) e) = some L := e
    rw [roundsIn_succ]
    refine wpIn_mono (hx tm ds h _ L e' ro m ρ a w htop ht hn hd hr) ?_
    rintro e1 a1 w1 ⟨ex, tm', ds', ρ', h', L', q1, q2, q3, q4, q5, q6, q7, q8⟩
    cases ex with
    | normal =>
      cases q1
      exact loop_rounds hx j tm' ds' h' k L' q7 ro m ρ' a1 w1 htop q2 q3 q4 q5 ρ0 h0 w0 L0 (hxt.trans q6) fun x hx => hl x (q8 x hx)
    | exit id => cases q1; exact ⟨.exit id, tm', ds', ρ', h', L', rfl, q2, q3, q4, q5, hxt.trans q6, q7, fun x hx => hl x (q8 x hx)⟩
    | ret => cases q1; exact ⟨.ret, tm', ds', ρ', h', L', rfl, q2, q3, q4, q5, hxt.trans q6, q7, fun x hx => hl x (q8 x hx)⟩
theorem loop_code {n : Nat} {top : Bool} {f : FR → Tm → List Nat → Heap → KC → R} {x : Code} (hx : CodeS P E r n top f x) : CodeS P E r n top (rounds most f) (.loop x) := by
  intro tm ds h k L e ro m ρ a w htop ht hn hd hr
  exact wpIn_loop_rounds most (loop_rounds hx most tm ds h k L e ro m ρ a w htop ht hn hd hr ρ h w L (.refl _ _ _ _) fun _ h => h)
include ok qs fr in
theorem region_code {n : Nat} {top : Bool} {id : Nat} {ops : Array Oper} {d : Bool} : CodeS P E r n top (fun r tm ds h k => (bif d then drawOps E n ops.toList else seqOps E n ops.toList ops.toList).g r tm h fun tm h => k .normal tm ds h) (.region id ops d) := by
  intro tm ds h k L e ro m ρ a w htop ht hn hd hr
  have hfin : ∀ a' w', RegOut E.lo n a.defers (fun tm h => k .normal tm ds h) L ρ h w a' w' → CPost E.lo n k L ρ h w .normal a' w' := fun a' w' ho => by
    obtain ⟨tm', ρ', h', L', q1, q2, q3, q4, q5, q6, q7⟩ := ho
    exact ⟨.normal, tm', ds, ρ', h', L', rfl, q1, q2, by rw [q3]; exact hd.later q5.later, q4, q5, q6, q7⟩
  cases d with
  | false => exact wpIn_region_list (seqOps_wp ok qs fr ops.toList e ht hn hr hfin)
  | true => exact drawOps_wp ok qs fr e ht hn hr hfin
/-- The statement 'for .. := range f': its two blocks, the call, and what is pending behind it. -/
theorem range_code {n : Nat} (fr : FRok P E.lo r) {f : Operand} {ps : Array Tmp} {as bd : Code} : CodeS P E r n true (fun r tm ds h k => Heap.new h (.defer true) fun df h => Heap.new h (.loop .ready none n tm ps.toList as bd df) fun l h => Bool.rec none
        (callFn r ((opd f).f tm) [.o (.func (.yield l) #[] #[])] h fun _ h => match Heap.get h l with
        | some (.loop st pd n' tm' ps' as' bd' df') => (match st with
          | .busy => none
          | _ => (match pd with
            | none => k .normal tm (df :: ds) (Heap.put h l (.loop .exhausted pd n' tm' ps' as' bd' df'))
            | some e => k e tm (df :: ds) (Heap.put h l (.loop .exhausted pd n' tm' ps' as' bd' df'))))
        | _ => none) (Nat.ble E.lo df)) (.rangeFunc f ps as bd) := by
  intro tm ds h k L e ro m ρ a w htop ht hn hd hr
  cases htop rfl
  obtain ⟨e1, e2⟩ := Heap.new_eq e
  obtain ⟨e3, e4⟩ := Heap.new_eq e2
  obtain ⟨e5, e6⟩ := rec_true e4
  have hlo : E.lo ≤ h.nx := Nat.le_of_ble_eq_true e5
  have hB1 : BR ρ 0 ⟨false, 0, 0, 0⟩ (.defer true) (.deferred (some [])) := ⟨rfl, rfl⟩
  have r1 := hr.make e1 (w' := { w with heap := w.heap.push (.deferred (some [])) }) rfl hB1
  have x1 := Ext.make (lo := E.lo) hr e1 (i := ⟨false, 0, 0, 0⟩) (B := .defer true) (o := .deferred (some [])) (w' := { w with heap := w.heap.push (.deferred (some [])) }) rfl rfl rfl rfl
  generalize hρ1 : upd ρ h.nx (.at w.heap.size 0 ⟨false, 0, 0, 0⟩) = ρ1 at r1 x1
  have m1 : MR ρ1 h.nx w.heap.size := by rw [← hρ1]; exact .made (upd_at _ _ _)
  have hnx1 : (h.made (.defer true)).nx = h.nx + 1 := rfl
  unfold callFn at e6
  obtain ⟨v, e7, e8⟩ := asO_some e6
  split at e8
  · rename_i g first captured
    rw [opd_f] at e7
    have hf := ht.ev f
    rw [e7] at hf
    have hf' := hf.o_inv
    cases hav : a.eval f <;> rw [hav] at hf' <;> cases hf'
    rename_i fn' first' captured' hfn hx hy
    have hfn' : fn' = Fn.func g := hfn
    subst hfn'
    refine wpIn_rangeFunc fun fn hfence => ?_
    generalize hlp : ({ state := .ready, pending := none, fn := fn, tmps := a.tmps, params := ps, assign := as, body := bd, defers := w.heap.size } : Loop) = lp
    have hB2 : BR ρ1 0 ⟨false, 0, 0, 0⟩ (.loop .ready none n tm ps.toList as bd h.nx) (.loop lp) := by
      subst hlp
      exact ⟨rfl, _, rfl, rfl, rfl, hn, ht.later x1.later, rfl, rfl, rfl, m1⟩
    generalize hw1 : ({ w with heap := w.heap.push (.deferred (some [])) } : World) = w1 at r1 x1
    have hw1s : w1.heap = w.heap.push (.deferred (some [])) := by rw [← hw1]
    have r2 := r1.make e3 (w' := { w1 with heap := w1.heap.push (.loop lp) }) rfl hB2
    have x2 := Ext.make (lo := E.lo) r1 e3 (i := ⟨false, 0, 0, 0⟩) (B := .loop .ready none n tm ps.toList as bd h.nx) (o := .loop lp) (w' := { w1 with heap := w1.heap.push (.loop lp) }) rfl rfl rfl rfl
    generalize hρ2 : upd ρ1 (h.made (.defer true)).nx (.at w1.heap.size 0 ⟨false, 0, 0, 0⟩) = ρ2 at r2 x2
    have m2 : MR ρ2 (h.made (.defer true)).nx w1.heap.size := by rw [← hρ2]; exact .made (upd_at _ _ _)
    generalize hw2 : ({ w1 with heap := w1.heap.push (.loop lp) } : World) = w2 at r2 x2
    have hlater := x1.later.trans x2.later
    obtain ⟨h1, h2⟩ := fr.call g _ _ _ L e8 ρ2 (first' ++ #[.func (.yield w1.heap.size) #[] #[]] ++ captured') w2 (ht.g.later hlater) (by
      simp only [Array.toList_append]
      refine ((ofVs (VRs.later hlater hx)).append (.cons ?_ .nil)).append (ofVs (VRs.later hlater hy))
      exact .func ⟨_, rfl, m2⟩ .nil .nil) r2
    refine ⟨w1.heap.size, [{ target := .collected w.heap.size, args := #[] }], w2, { target := .fn (.func g) captured', args := first' ++ #[.func (.yield w1.heap.size) #[] #[]] }, w2, g, _, w2, ?_, ?_, fun _ _ => trivial, h1, (fun hh => by cases hh), callsIn_wide.2 (Calls.mono h2 ?_)⟩
    · unfold Instr.enterLoop
      show (Sem.run P (do
        let x ← (do let r ← newObj (.deferred (some [])); pure (r, [({ target := .collected r, args := #[] } : Deferred)]))
        let y ← newObj (.loop { state := .ready, pending := none, fn, tmps := a.tmps, params := ps, assign := as, body := bd, defers := x.1 })
        pure (y, x.2)) w) = _
      simp only [Sem.run_bind, newObj_run, Result.andThen_ok, Sem.run_pure]
      subst hlp
      subst hw1
      subst hw2
      rfl
    · have hm1 : Array.map a.eval #[Operand.const (Value.func (Fn.yield w1.heap.size) #[] #[])] = #[Value.func (Fn.yield w1.heap.size) #[] #[]] := by simp [Act.eval]
      simp only [resolve, rangeCall, hav, Deferred.ofValue, Sem.run_pure, hm1]
    · rintro e9 w3 ⟨v', rfl, vv, ρ3, h3, L3, q1, q2, q3, q4, q5⟩
      dsimp only at q4
      have hx3 := (x1.trans x2).trans q3
      split at q4
      · rename_i st pd n' tm' ps' as' bd' df' hk
        obtain ⟨i3, lp3, y1, y2, y3, y4, y5, y6, y7, y8, y9, y10⟩ := loop_at q2.s (m2.later q3.later) hk
        have hnb : st ≠ .busy := by intro c; subst c; cases q4
        obtain ⟨z1, z2⟩ := turnLoop (lo := E.lo) q2 (lp := { lp3 with state := .exhausted }) (st := .exhausted) (by rw [hnx1]; omega) y1 rfl y4 y5 y6 y7 y8 y9 y10
        refine ⟨lp3.pending, _, endLoop_run y2 (by rw [y3]; exact hnb), ?_⟩
        have hds : DsR ρ3 (h.nx :: ds) ([{ target := .collected w.heap.size, args := #[] }] ++ a.defers) :=
          .cons ⟨_, rfl, (m1.later x2.later).later q3.later⟩ (hd.later hx3.later)
        cases pd with
        | none =>
          have hp : lp3.pending = none := y4
          rw [hp] at z1 z2 ⊢
          have q4' : k .normal tm (h.nx :: ds) (h3.put (h.made (.defer true)).nx (.loop .exhausted none n' tm' ps' as' bd' df')) = some L3 := by
            cases st <;> first | exact absurd rfl hnb | exact q4
          exact ⟨.normal, tm, _, ρ3, _, L3, rfl, ht.later hx3.later, hn, hds, z1, hx3.trans z2, q4', q5⟩
        | some ex =>
          have q4' : k ex tm (h.nx :: ds) (h3.put (h.made (.defer true)).nx (.loop .exhausted (some ex) n' tm' ps' as' bd' df')) = some L3 := by
            cases st <;> first | exact absurd rfl hnb | exact q4
          cases ex with
          | normal => exact y4.elim
          | exit id =>
            have hp : lp3.pending = some (.exit id) := y4
            rw [hp] at z1 z2 ⊢
            exact wpIn_exit ⟨.exit id, tm, _, ρ3, _, L3, rfl, ht.later hx3.later, hn, hds, z1, hx3.trans z2, q4', q5⟩
          | ret =>
            have hp : lp3.pending = some .ret := y4
            rw [hp] at z1 z2 ⊢
            exact wpIn_ret ⟨.ret, tm, _, ρ3, _, L3, rfl, ht.later hx3.later, hn, hds, z1, hx3.trans z2, q4', q5⟩
      · cases q4
  · cases e8
include ok qs fr in
theorem code_sound {top : Bool} {fn : FuncId} {n : Nat} : ∀ (c : Code), CodeS P E r n top (compCode E top fn n c).g c
  | .skip => fun tm ds h k L e ro m ρ a w _ ht hn hd hr => wpIn_skip ⟨.normal, tm, ds, ρ, h, L, rfl, ht, hn, hd, hr, .refl _ _ _ _, e, fun _ h => h⟩
  | .label _ => fun tm ds h k L e ro m ρ a w _ ht hn hd hr => wpIn_label ⟨.normal, tm, ds, ρ, h, L, rfl, ht, hn, hd, hr, .refl _ _ _ _, e, fun _ h => h⟩
  | .region id ops d => region_code ok qs fr
  | .seq x y => seq_code (code_sound x) (code_sound y)
  | .cond c x y => cond_code (code_sound x) (code_sound y)
  | .block id x => block_code (code_sound x)
  | .loop x => loop_code (code_sound x)
  | .exit id => fun tm ds h k L e ro m ρ a w _ ht hn hd hr => wpIn_exit ⟨.exit id, tm, ds, ρ, h, L, rfl, ht, hn, hd, hr, .refl _ _ _ _, e, fun _ h => h⟩
  | .ret => fun tm ds h k L e ro m ρ a w _ ht hn hd hr => wpIn_ret ⟨.ret, tm, ds, ρ, h, L, rfl, ht, hn, hd, hr, .refl _ _ _ _, e, fun _ h => h⟩
  | .rangeFunc f ps as bd => by
    cases top with
    | true => exact range_code fr
    | false => exact none_code n false _
  | .goto _ => none_code n top _
  | .scope _ => none_code n top _
  | .refuse _ => none_code n top _
end
end Go.FX
namespace Go.FX
variable [Sym]
theorem tm0_at (t : Nat) : Tm.at tm0 t = .u := by
  have h : ∀ {α : Type} (x : α) (i : Nat), N.at (full x) i = x := fun x i => by
    unfold full N.at
    rcases i with _ | _ | _ | _ | _ | _ | i <;> rfl
  unfold Tm.at tm0
  rw [h, h, h]
noncomputable def enterFrom (n : Nat) (c : Tm → R) : List FV → Nat → Tm → R := fun vs => List.rec (motive := fun _ => Nat → Tm → R) (fun _ tm => c tm) (fun v _ ih i tm => match put n (some i) with | ⟨p⟩ => p tm v fun tm => ih (Nat.succ i) tm) vs
theorem enterFrom_some {n : Nat} {c : Tm → R} {L : List (FV × Heap)} : ∀ (vs : List FV) (i : Nat) (tm : Tm), enterFrom n c vs i tm = some L →
    ∃ tm', c tm' = some L ∧ (vs = [] ∨ i + vs.length ≤ n) ∧ ∀ j, j < tmMost → Tm.at tm' j = if i ≤ j ∧ j < i + vs.length then vs.getD (j - i) .u else Tm.at tm j
  | [], i, tm, e => ⟨tm, e, .inl rfl, fun j _ => by rw [if_neg (by simp)]⟩
  | v :: vs, i, tm, e => by
    have e' : (put n (some i)).f tm v (fun tm => enterFrom n c vs (i + 1) tm) = some L := e
    obtain ⟨h1, h2, tm1, h3, h4⟩ := put_f n i tm v _ L e'
    obtain ⟨tm', g1, g2, g3⟩ := enterFrom_some vs (i + 1) tm1 h4
    refine ⟨tm', g1, .inr ?_, fun j hj => ?_⟩
    · rcases g2 with g2 | g2
      · subst g2; simp; omega
      · simp; omega
    · rw [g3 j hj]
      simp only [List.length_cons]
      by_cases c1 : i + 1 ≤ j ∧ j < i + 1 + vs.length
      · rw [if_pos c1, if_pos (by omega), show j - i = (j - (i + 1)) + 1 from by omega]
        rfl
      · rw [if_neg c1, h3 j hj]
        by_cases c2 : j = i
        · subst c2; rw [if_pos rfl, if_pos (by omega)]; simp
        · rw [if_neg c2, if_neg (by omega)]
theorem All2.getD {ρ : Rho} : ∀ {vs : List FV} {vs' : List Value} (_ : All2 (FVR ρ) vs vs') (j : Nat) (d : Value), j < vs.length → FVR ρ (vs.getD j .u) (vs'.getD j d)
  | _, _, .nil, j, d, h => by simp at h
  | _, _, .cons h hs, 0, d, _ => h
  | _, _, .cons h hs, j + 1, d, hj => by
    have := All2.getD hs j d (by simpa using hj)
    simpa using this
theorem enter_some {n : Nat} {vs : List FV} {c : Tm → R} {L : List (FV × Heap)} (e : enter n vs c = some L) :
    ∃ tm, c tm = some L ∧ ∀ ρ (args : Array Value), GR ρ → All2 (FVR ρ) vs args.toList → TR ρ tm (args ++ Array.replicate (n - args.size) undef) ∧ (args ++ Array.replicate (n - args.size) undef).size = n := by
  have e' : enterFrom n c vs 0 tm0 = some L := e
  obtain ⟨tm, h1, h2, h3⟩ := enterFrom_some vs 0 tm0 e'
  refine ⟨tm, h1, fun ρ args hg ha => ?_⟩
  have hl : vs.length = args.size := by rw [ha.length, Array.length_toList]
  have hsz : args.size ≤ n := by
    rcases h2 with h2 | h2
    · subst h2; simp at hl; omega
    · omega
  refine ⟨⟨hg, fun t ht => ?_⟩, by simp; omega⟩
  rw [h3 t ht]
  by_cases c : t < vs.length
  · rw [if_pos ⟨Nat.zero_le _, by omega⟩, Nat.sub_zero]
    have := ha.getD t undef c
    rw [Array.getD_eq_getD_getElem?, Array.getElem?_append_left (by omega), ← Array.getElem?_toList, ← List.getD_eq_getElem?_getD]
    exact this
  · rw [if_neg (by omega), tm0_at]
    trivial
section
variable {P : Program} {E : Env} (ok : EnvOk P E)
theorem takeDeferred_run {w : World} {r : Nat} (h : w.heap[r]? = some (.deferred (some []))) : (Instr.takeDeferred r).run P w = .ok [] { w with heap := w.heap.setIfInBounds r (.deferred none) } := by
  unfold Instr.takeDeferred
  simp only [Sem.run_bind, getObj_run (P := P) h (by simp), Result.andThen_ok, setObj_run (P := P) (ob' := .deferred none) h (by simp), Sem.run_pure]
noncomputable def undeferFrom (lo : Nat) (c : Heap → R) : List Nat → Heap → R := fun ds => List.rec (motive := fun _ => Heap → R) (fun h => c h) (fun d _ ih h => match Heap.get h d with | some (.defer true) => Bool.rec none (ih (Heap.put h d (.defer false))) (Nat.ble lo d) | _ => none) ds
theorem undefer_sound {lo : Nat} {c : Heap → R} {fn : Func} {tmps : Array Value} {RR : Ending → World → Prop} {m : Nat} : ∀ (ds : List Nat) (defers : List Deferred) (ρ : Rho) (h : Heap) (w : World) (L : List (FV × Heap)), undeferFrom lo c ds h = some L → DsR ρ ds defers → HR ρ h w →
    (∀ h' w', HR ρ h' w' → Ext lo ρ h w ρ h' w' → c h' = some L → ∃ v, (results fn tmps).run P w' = .ok v w' ∧ RR (.returned v) w') → LeavesInM Fence.wide m P fn tmps RR defers .returning w
  | [], _, ρ, h, w, L, e, .nil, hr, hc => hc h w hr (.refl _ _ _ _) e
  | d :: ds, _, ρ, h, w, L, e, .cons hd hs, hr, hc => by
    have e' : (match Heap.get h d with | some (.defer true) => Bool.rec none (undeferFrom lo c ds (Heap.put h d (.defer false))) (Nat.ble lo d) | _ => none : R) = some L := e
    split at e'
    · rename_i hk
      obtain ⟨e1, e2⟩ := rec_true e'
      have hlo : lo ≤ d := Nat.le_of_ble_eq_true e1
      obtain ⟨r, hd1, hm⟩ := hd
      have hf : ρ d ≠ .fresh := fun e => by unfold MR at hm; simp only [e] at hm
      obtain ⟨b, s, i, ob, h1, h2, h3⟩ := hr.live hk hf
      obtain ⟨q1, q2⟩ := h3
      unfold MR at hm
      simp only [h1] at hm
      obtain ⟨m1, m2⟩ := hm
      subst m1 m2 q2
      have hlt := lt_of_get h2
      have hg := set_get w.heap r (.deferred none) hlt
      have t1 : HR ρ (h.put d (.defer false)) { w with heap := w.heap.setIfInBounds r (.deferred none) } := hr.turn (o := .deferred none) h1 (by rw [hg, if_pos rfl]) (fun j hj => by rw [hg, if_neg hj]) ⟨rfl, rfl⟩
      have t2 : Ext lo ρ h w ρ (h.put d (.defer false)) { w with heap := w.heap.setIfInBounds r (.deferred none) } := Ext.turn hr hlo h1 (fun j hj => by rw [hg, if_neg hj]) (by simp) rfl rfl rfl
      refine ⟨by simp, .inl ⟨r, _, by rw [hd1], takeDeferred_run h2, ?_⟩⟩
      exact undefer_sound ds _ ρ _ _ L e2 hs t1 fun h' w' g1 g2 g3 => hc h' w' g1 (t2.trans g2) g3
    · cases e'
include ok in
theorem loadVar_sound {t : TypeId} {x : Operand} {r : FR} {tm : Tm} {h : Heap} {k : K} {L : List (FV × Heap)} (e : (loadOp E t (opd x)).g r tm h k = some L) :
    ∃ v, k v h = some L ∧ ∀ ρ (a : Act) w, TR ρ tm a.tmps → HRs ρ h w → ∃ a' v', a.eval x = .pointer (some a') ∧ (loadVar t a').run P w = .ok v' w ∧ FVR ρ v v' := by
  revert e
  show (match E.und t, E.size t with
    | some d, some n => bif isAggD d then (⟨fun _ tm h k => asPtr ((opd x).f tm) fun b o => readCells h b o n fun l => k (.o (.agg ⟨l⟩)) h⟩ : COp)
      else ⟨fun _ tm h k => asPtr ((opd x).f tm) fun b o => readCell h b o fun v => k (ofV v) h⟩
    | _, _ => noOp).g r tm h k = some L → _
  split
  · rename_i d n hu hs
    cases hA : isAggD d with
    | true =>
      intro e
      obtain ⟨b, q, e1, e2⟩ := asPtr_some e
      obtain ⟨out, e3, e4, _, e5⟩ := readCells_some e2
      rw [opd_f] at e1
      refine ⟨_, e3, fun ρ a w ht hr => ?_⟩
      have hx := ht.ev x; rw [e1] at hx
      obtain ⟨a', g1, g2⟩ := hx.p_inv
      obtain ⟨out', g3, g4⟩ := e5 P ρ w a' hr g2
      refine ⟨a', .agg out', g1, ?_, VR.agg g4⟩
      unfold loadVar
      simp only [Sem.run_bind, Sem.run_pure, Result.andThen_ok, run_agg ok hu, hA, if_true, run_size ok hs, g3 w rfl]
    | false =>
      intro e
      obtain ⟨b, q, e1, e2⟩ := asPtr_some e
      obtain ⟨v, e3, e5⟩ := readCell_some e2
      rw [opd_f] at e1
      refine ⟨_, e3, fun ρ a w ht hr => ?_⟩
      have hx := ht.ev x; rw [e1] at hx
      obtain ⟨a', g1, g2⟩ := hx.p_inv
      obtain ⟨v', g3, g4⟩ := e5 P ρ w a' hr g2
      refine ⟨a', v', g1, ?_, .ofV g4⟩
      unfold loadVar
      simp only [Sem.run_bind, Sem.run_pure, Result.andThen_ok, run_agg ok hu, hA, Bool.false_eq_true, if_false, g3]
  · intro e; cases e
/-- What one result is. -/
def resOf (tmps : Array Value) : ResultVar → Sem Value
  | .tmp t => pure (tmps.getD t undef)
  | .cell a t => do loadVar t (← asAddr (tmps.getD a undef))
theorem results_eq (fn : Func) (tmps : Array Value) : results fn tmps = (do let vs ← fn.results.toList.mapM (resOf tmps); pure (if h : vs.toArray.size = 1 then vs.toArray[0] else .tuple vs.toArray)) := by
  have h1 : results fn tmps = (fn.results.mapM (resOf tmps) >>= fun vs => pure (if h : vs.size = 1 then vs[0] else .tuple vs)) := by
    unfold results
    congr 1
  rw [h1, Array.mapM_eq_mapM_toList]
  simp only [map_eq_pure_bind, bind_assoc, pure_bind]
include ok in
theorem outs_sound {tm : Tm} {h : Heap} {L : List (FV × Heap)} : ∀ (rs : List ResultVar) {c : List FV → R}, (outs E rs).g tm h c = some L →
    ∃ l, c l = some L ∧ ∀ ρ (tmps : Array Value) w, TR ρ tm tmps → HRs ρ h w → ∃ l', (rs.mapM (resOf tmps)).run P w = .ok l' w ∧ All2 (FVR ρ) l l'
  | [], c, e => ⟨[], e, fun ρ tmps w _ _ => ⟨[], rfl, .nil⟩⟩
  | .tmp t :: rs, c, e => by
    have e' : (outs E rs).g tm h (fun l => c ((opd (.tmp t)).f tm :: l)) = some L := e
    obtain ⟨l, h1, h2⟩ := outs_sound rs e'
    refine ⟨_, h1, fun ρ tmps w ht hr => ?_⟩
    obtain ⟨l', g1, g2⟩ := h2 ρ tmps w ht hr
    have hx := TR.ev (a := ⟨tmps, []⟩) ht (.tmp t)
    refine ⟨tmps.getD t undef :: l', ?_, .cons (by rw [opd_f]; exact hx) g2⟩
    rw [List.mapM_cons]
    simp only [resOf, pure_bind, Sem.run_bind, g1, Result.andThen_ok, Sem.run_pure]
  | .cell a t :: rs, c, e => by
    have e' : (loadOp E t (opd (.tmp a))).g ⟨fun _ _ _ _ => none, fun _ _ _ _ _ => none⟩ tm h (fun v _ => (outs E rs).g tm h fun l => c (v :: l)) = some L := e
    obtain ⟨v, h1, h2⟩ := loadVar_sound ok e'
    obtain ⟨l, h3, h4⟩ := outs_sound rs h1
    refine ⟨_, h3, fun ρ tmps w ht hr => ?_⟩
    obtain ⟨a', v', g1, g2, g3⟩ := h2 ρ ⟨tmps, []⟩ w ht hr
    obtain ⟨l', g4, g5⟩ := h4 ρ tmps w ht hr
    have g1' : tmps.getD a undef = .pointer (some a') := by
      have : (Act.eval ⟨tmps, []⟩ (.tmp a)) = tmps.getD a undef := rfl
      rw [← this]; exact g1
    refine ⟨v' :: l', ?_, .cons g3 g5⟩
    rw [List.mapM_cons]
    simp only [resOf, g1', asAddr, pure_bind, Sem.run_bind, g2, g4, Result.andThen_ok, Sem.run_pure]
theorem vals_some2 : ∀ {l : List FV} {c : List Value → R} {L : List (FV × Heap)}, vals l c = some L → ∃ vs, c vs = some L ∧ ∀ ρ l', All2 (FVR ρ) l l' → VRs ρ vs l'
  | [], c, L, e => ⟨[], e, fun ρ l' h => by cases h; exact .nil⟩
  | x :: xs, c, L, e => by
    have e' : known x (fun y => vals xs fun vs => c (FV.v y :: vs)) = some L := e
    obtain ⟨h1, h2⟩ := known_some e'
    obtain ⟨vs, h3, h4⟩ := vals_some2 h2
    refine ⟨_, h3, fun ρ l' h => ?_⟩
    cases h with
    | cons ha hs => exact .cons (ha.known_inv h1) (h4 ρ _ hs)
theorem tuple_some {l : List FV} {c : FV → R} {L : List (FV × Heap)} (e : tuple l c = some L) : ∃ v, c v = some L ∧ ∀ ρ (l' : List Value), All2 (FVR ρ) l l' → FVR ρ v (if h : l'.toArray.size = 1 then l'.toArray[0] else .tuple l'.toArray) := by
  unfold tuple at e
  split at e
  · rename_i v
    refine ⟨v, e, fun ρ l' h => ?_⟩
    cases h with
    | cons ha hs => cases hs; exact ha
  · rename_i hne
    obtain ⟨vs, h1, h2⟩ := vals_some2 e
    refine ⟨_, h1, fun ρ l' h => ?_⟩
    have hl := h.length
    rw [dif_neg]
    · exact VR.tuple (by simpa using h2 ρ l' h)
    · intro hs
      simp at hs
      rw [hs] at hl
      match l, hl with
      | [v], _ => exact hne v rfl
include ok in
theorem func_sound (qs : EqsOk P E) (hname : ∀ f fn, T.get E.ft f = some fn → fn.name ≠ "runtime.NumGoroutine") {r : FR} (fr : FRok P E.lo r) {f : FuncId} {vs : List FV} {h : Heap} {k : K} {L : List (FV × Heap)} (e : (compF E f).g r vs h k = some L) {ρ : Rho} {args : Array Value} {w : World}
    (hg : GR ρ) (ha : All2 (FVR ρ) vs args.toList) (hr : HR ρ h w) :
    (callFunc f args).run P w = .ok (.enter f args) w ∧ Calls P f args w fun e w' => ∃ v', e = .returned v' ∧ OpOut P E.lo k L ρ h w v' w' := by
  unfold compF at e
  cases hf : T.get E.ft f with
  | none => rw [hf] at e; cases e
  | some fn =>
    rw [hf] at e
    dsimp only at e
    cases hb : fn.body with
    | none => rw [hb] at e; cases e
    | some b =>
      rw [hb] at e
      have e' : enter fn.ntmps vs (fun tm => (compCode E true f fn.ntmps b).g r tm [] h fun e tm ds h => Ex.rec (undeferFrom E.lo (fun h => (outs E fn.results.toList).g tm h fun l => tuple l fun v => k v h) ds h) (fun _ => none) (undeferFrom E.lo (fun h => (outs E fn.results.toList).g tm h fun l => tuple l fun v => k v h) ds h) e) = some L := e
      obtain ⟨tm, e1, e2⟩ := enter_some e'
      obtain ⟨h1, h2⟩ := e2 ρ args hg ha
      have hf' := ok.ft _ _ hf
      refine ⟨?_, (callsIn_wide (n := 0)).1 (callsIn_of_wp_marks hf' hb trivial (wpIn_mono (code_sound ok qs fr b tm [] h _ L e1 none 0 ρ ⟨args ++ Array.replicate (fn.ntmps - args.size) undef, []⟩ w (fun _ => rfl) h1 h2 .nil hr) ?_))⟩
      · unfold callFunc
        have hn := hname _ _ hf
        have hp : (program).run P w = .ok P w := rfl
        simp only [Sem.run_bind, hp, Result.andThen_ok, hf', hb, Option.isNone_some, Bool.false_eq_true, if_false, beq_iff_eq, hn]
        rfl
      · rintro e3 a' w' ⟨ex, tm', ds', ρ', h', L', q1, q2, q3, q4, q5, q6, q7, q8⟩
        have key : ∀ L', undeferFrom E.lo (fun h => (outs E fn.results.toList).g tm' h fun l => tuple l fun v => k v h) ds' h' = some L' → (∀ x ∈ L', x ∈ L) → LeavesInM Fence.wide 0 P fn a'.tmps (fun e w' => ∃ v', e = .returned v' ∧ OpOut P E.lo k L ρ h w v' w') a'.defers .returning w' := by
          intro L' hu hl
          refine undefer_sound ds' a'.defers ρ' h' w' L' hu q4 q5 fun h2 w2 g1 g2 g3 => ?_
          obtain ⟨l, g4, g5⟩ := outs_sound ok _ g3
          obtain ⟨v, g6, g7⟩ := tuple_some g4
          obtain ⟨l', g8, g9⟩ := g5 ρ' a'.tmps w2 q2 g1.s
          refine ⟨_, ?_, _, rfl, v, ρ', h2, L', g7 ρ' l' g9, g1, q6.trans g2, g6, hl⟩
          rw [results_eq]
          simp only [Sem.run_bind, g8, Result.andThen_ok, Sem.run_pure]
        cases ex with
        | normal => cases q1; exact key L' q7 q8
        | exit id => cases q7
        | ret => cases q1; exact key L' q7 q8
end
end Go.FX
namespace Go.FX
variable [Sym]

/-! ### Some blocks are let go -/

def Less (h2 h : Heap) : Prop := (T.wf dH h.t → T.wf dH h2.t) ∧ h2.nx = h.nx ∧ (T.wf dH h.t → ∀ k, h2.get k = h.get k ∨ h2.get k = none)
theorem Less.refl (h : Heap) : Less h h := ⟨id, rfl, fun _ _ => .inl rfl⟩
theorem Less.trans {h h2 h3 : Heap} (a : Less h2 h) (b : Less h3 h2) : Less h3 h := ⟨fun w => b.1 (a.1 w), b.2.1.trans a.2.1, fun w k => by
  rcases b.2.2 (a.1 w) k with e | e
  · rw [e]; exact a.2.2 w k
  · exact .inr e⟩
theorem T.set_big {α : Type} (x : T α) (hx : ∀ k, k ≠ 0 → T.get x k = none) : ∀ (d : Nat) (t : T α) (k j : Nat), T.wf d t → T.get (T.set d t k x) j = T.get t j ∨ T.get (T.set d t k x) j = T.get x 0
  | 0, t, k, j, h => by
    rw [T.set_zero]
    split
    · by_cases hj : j = 0
      · subst hj; exact .inr rfl
      · rw [hx j hj]
        cases t with
        | nil => exact .inl rfl
        | leaf y => rw [T.get_leaf, if_neg hj]; exact .inl rfl
        | node l r => exact h.elim
    · exact .inl rfl
  | d + 1, t, k, j, h => by
    rw [T.set_succ]
    by_cases hp : k % 2 = 0
    · rw [if_pos hp, T.get_node]
      by_cases hj : j % 2 = 0
      · rw [if_pos hj, T.get_left h j hj]; exact T.set_big x hx d _ _ _ (T.wf_left h)
      · rw [if_neg hj, T.get_right h j hj]; exact .inl rfl
    · rw [if_neg hp, T.get_node]
      by_cases hj : j % 2 = 0
      · rw [if_pos hj, T.get_left h j hj]; exact .inl rfl
      · rw [if_neg hj, T.get_right h j hj]; exact T.set_big x hx d _ _ _ (T.wf_right h)
theorem Less.kill (h : Heap) (k : Nat) : Less (h.kill k) h := ⟨fun w => Heap.kill_wf w k, rfl, fun w j => by
  cases h with
  | mk t n => exact T.set_big .nil (fun k _ => T.get_nil k) dH t k j w⟩
theorem Less.sweep (keep : List Nat) : ∀ (n lo : Nat) (h : Heap), Less (sweep keep n lo h) h
  | 0, _, h => .refl h
  | n + 1, lo, h => by
    have a : Less (bif hasNat lo keep then h else Heap.kill h lo) h := by
      cases hasNat lo keep
      · exact .kill h lo
      · exact .refl h
    exact a.trans (Less.sweep keep n _ _)
theorem tidy_wf : ∀ (d : Nat) (t : T Blk), T.wf d t → T.wf d (tidy t)
  | d, .nil, _ => by cases d <;> trivial
  | 0, .leaf b, _ => by cases b <;> trivial
  | d + 1, .leaf _, h => h.elim
  | 0, .node _ _, h => h.elim
  | d + 1, .node a b, h => ⟨tidy_wf d a h.1, tidy_wf d b h.2⟩
theorem tidy_get : ∀ (t : T Blk) (k : Nat), T.get (tidy t) k = T.get t k ∨ T.get (tidy t) k = none
  | .nil, _ => .inl rfl
  | .leaf b, k => by
    cases b <;> first | exact .inl rfl | exact .inr rfl
  | .node a b, k => by
    rw [T.get_node, show tidy (.node a b) = .node (tidy a) (tidy b) from rfl, T.get_node]
    split
    · exact tidy_get a _
    · exact tidy_get b _
theorem Less.thin (lo : Nat) (x : FV × Heap) : (thin lo x).1 = x.1 ∧ Less (thin lo x).2 x.2 := by
  refine ⟨rfl, ?_⟩
  exact (Less.sweep (reach 10000 x.2 lo (refs 6 (FV.v x.1)) []) (Nat.sub x.2.nx lo) lo x.2).trans ⟨fun w => tidy_wf dH _ w, rfl, fun w k => tidy_get _ k⟩
theorem HR.prune {lo : Nat} {ρ : Rho} {h h2 : Heap} {w : World} (hr : HR ρ h w) (hl : Less h2 h) : ∃ ρ2, HR ρ2 h2 w ∧ Ext lo ρ h w ρ2 h2 w := by
  obtain ⟨l1, l2, l3⟩ := hl
  have l3 := l3 hr.wf
  let ρ2 : Rho := fun k => match ρ k with
    | .fresh => .fresh
    | .dead => .dead
    | .at b s i => match h2.get k with | none => .dead | some _ => .at b s i
  have c1 : ∀ k, ρ k = .fresh → ρ2 k = .fresh := fun k e => by simp only [ρ2, e]
  have c2 : ∀ k b s i, ρ2 k = .at b s i → ρ k = .at b s i ∧ h2.get k ≠ none := fun k b s i e => by
    simp only [ρ2] at e
    split at e
    · cases e
    · cases e
    · rename_i b' s' i' e'
      split at e
      · cases e
      · rename_i B hB
        cases e
        exact ⟨e', by rw [hB]; simp⟩
  have hlater : Later ρ ρ2 := fun k => by
    cases e : ρ k with
    | fresh => trivial
    | dead => simp only [ρ2, e]
    | «at» b s i =>
      simp only [ρ2, e]
      cases h2.get k with
      | none => exact .inr rfl
      | some B => exact .inl rfl
  refine ⟨ρ2, ⟨l1 hr.wf, fun k => ?_, fun k k' b s i s' i' e e' => hr.inj k k' b s i s' i' (c2 _ _ _ _ e).1 (c2 _ _ _ _ e').1, fun k hk => c1 k (hr.nx k (by rw [← l2]; exact hk)), fun k hk => by
      rcases l3 k with g | g
      · rw [g]; exact hr.top k (by rw [← l2]; exact hk)
      · exact g⟩,
    ⟨hlater, fun k _ e => ⟨c1 k e, l3 k⟩, fun k b s i hk e => .inr ⟨k, s, i, hk, (c2 _ _ _ _ e).1⟩, by rw [l2]; exact Nat.le_refl _, Nat.le_refl _, fun _ _ _ => rfl, rfl, rfl, rfl⟩⟩
  cases e : ρ2 k with
  | fresh => trivial
  | dead =>
    show h2.get k = none
    simp only [ρ2] at e
    split at e
    · cases e
    · rename_i e'
      rcases l3 k with g | g
      · rw [g]; exact hr.dead e'
      · exact g
    · split at e
      · rename_i g; exact g
      · cases e
  | «at» b s i =>
    obtain ⟨e1, e2⟩ := c2 _ _ _ _ e
    obtain ⟨B, o, g1, g2, g3⟩ := hr.at e1
    rcases l3 k with g | g
    · exact ⟨B, o, by rw [g]; exact g1, g2, g3.later hlater⟩
    · exact absurd g e2

/-! ### Several outcomes -/

theorem each_cons2 {α : Type} (x y : α) (l : List α) (f : α → R) : each (x :: y :: l) f = match f x, each (y :: l) f with | some a, some b => some (a ++ b) | _, _ => none := rfl
theorem each_in {α : Type} {f : α → R} : ∀ {l : List α} {L : List (FV × Heap)}, each l f = some L → ∀ x ∈ l, ∃ L', f x = some L' ∧ ∀ y ∈ L', y ∈ L
  | [], L, e, x, hx => by cases hx
  | [a], L, e, x, hx => by
    have e' : f a = some L := e
    cases hx with
    | head => exact ⟨L, e', fun _ h => h⟩
    | tail _ h => cases h
  | a :: b :: l, L, e, x, hx => by
    rw [each_cons2] at e
    split at e
    · rename_i p q hp hq
      cases e
      cases hx with
      | head => exact ⟨p, hp, fun y hy => by simp [hy]⟩
      | tail _ h =>
        obtain ⟨L', h1, h2⟩ := each_in hq x h
        exact ⟨L', h1, fun y hy => by simp [h2 y hy]⟩
    · cases e
theorem merge_sound {lo lo' : Nat} {l : List (FV × Heap)} {ρ ρ' : Rho} {h h' : Heap} {w w' : World} {v : FV} {v' : Value} (hm : (v, h') ∈ l) (hv : FVR ρ' v v') (hr : HR ρ' h' w') (hx : Ext lo ρ h w ρ' h' w') :
    ∃ y ∈ merge lo' l, ∃ ρ2, FVR ρ2 y.1 v' ∧ HR ρ2 y.2 w' ∧ Ext lo ρ h w ρ2 y.2 w' := by
  have same : ∀ z ∈ [(v, h')], ∃ ρ2, FVR ρ2 z.1 v' ∧ HR ρ2 z.2 w' ∧ Ext lo ρ h w ρ2 z.2 w' := fun z hz => by
    cases hz with
    | head => exact ⟨ρ', hv, hr, hx⟩
    | tail _ h => cases h
  unfold merge
  split
  · cases hm
  · exact ⟨_, hm, same _ (by simp)⟩
  · rename_i x xs _
    cases hb : (xs.all fun z => outEq (thin lo' x) (thin lo' z)) with
    | false =>
      simp only [hb, cond_false]
      exact ⟨_, hm, same _ (by simp)⟩
    | true =>
      simp only [hb, cond_true]
      obtain ⟨t1, t2⟩ := Less.thin lo' (v, h')
      obtain ⟨ρ2, p1, p2⟩ := HR.prune (lo := lo) hr t2
      have hv2 : FVR ρ2 (thin lo' (v, h')).1 v' := by rw [t1]; exact hv.later p2.later
      have hout : thin lo' x = thin lo' (v, h') := by
        cases hm with
        | head => rfl
        | tail _ hm =>
          have := List.all_eq_true.1 hb _ hm
          unfold outEq at this
          obtain ⟨q1, q2⟩ := and_true' this
          obtain ⟨q3, q4⟩ := and_true' q1
          have e1 := (fvEq_eq q3).1
          have e2 := Nat.eq_of_beq_eq_true q4
          have e3 := treeEq_eq q2
          generalize thin lo' x = A at *
          generalize thin lo' (v, h') = B at *
          obtain ⟨a, ⟨ta, na⟩⟩ := A
          obtain ⟨b, ⟨tb, nb⟩⟩ := B
          dsimp only at e1 e2 e3
          rw [e1, e2, e3]
      exact ⟨thin lo' x, by simp, ρ2, by rw [hout]; exact hv2, by rw [hout]; exact p1, by rw [hout]; exact hx.trans p2⟩

/-! ### The machine -/

def CallS (P : Program) (lo : Nat) (g : List FV → Heap → K → R) (f : FuncId) : Prop :=
  ∀ vs h k L, g vs h k = some L → ∀ ρ (args : Array Value) w, GR ρ → All2 (FVR ρ) vs args.toList → HR ρ h w →
    (callFunc f args).run P w = .ok (.enter f args) w ∧ Calls P f args w fun e w' => ∃ v', e = .returned v' ∧ OpOut P lo k L ρ h w v' w'
/-- What is known of calls holds. -/
def KnownOk (P : Program) (lo : Nat) (q : Known) : Prop := ∀ f c, q.g f = some c → ∀ r, FRok P lo r → CallS P lo (c.g r) f
section
variable {P : Program} {E : Env} (ok : EnvOk P E) (qs : EqsOk P E) (hname : ∀ f fn, T.get E.ft f = some fn → fn.name ≠ "runtime.NumGoroutine") {q : Known} (hq : KnownOk P E.lo q)
include ok qs hname hq
theorem callF_sound {r : FR} (fr : FRok P E.lo r) (f : FuncId) : CallS P E.lo (callF E q r f) f := by
  intro vs h k L e ρ args w hg ha hr
  unfold callF at e
  cases hc : q.g f with
  | some c =>
    rw [hc] at e
    exact hq f c hc r fr vs h k L e ρ args w hg ha hr
  | none =>
    rw [hc] at e
    dsimp only at e
    cases hm : hasNat f E.mg with
    | false =>
      rw [hm] at e
      exact func_sound ok qs hname fr (k := k) (L := L) e hg ha hr
    | true =>
      rw [hm, cond_true] at e
      split at e
      · rename_i l hl
        obtain ⟨h1, h2⟩ := func_sound ok qs hname fr (k := fun v h => some [(v, h)]) (L := l) hl hg ha hr
        refine ⟨h1, Calls.mono h2 ?_⟩
        rintro e3 w' ⟨v', rfl, v, ρ', h', L', q1, q2, q3, q4, q5⟩
        cases q4
        obtain ⟨y, y1, ρ2, y2, y3, y4⟩ := merge_sound (lo' := h.nx) (q5 _ (List.mem_singleton.2 rfl)) q1 q2 q3
        obtain ⟨L2, z1, z2⟩ := each_in e y y1
        exact ⟨v', rfl, y.1, ρ2, y.2, L2, y2, y3, y4, z1, z2⟩
      · cases e
theorem run_ok : ∀ n, FRok P E.lo (run E q n)
  | 0 => ⟨fun f vs h k L e => (by cases e), fun c n tm h k L e => (by cases e)⟩
  | n + 1 => by
    have ih := run_ok n
    refine ⟨fun f vs h k L e => callF_sound ok qs hname hq ih f vs h k L e, fun c m tm h k L e l j ρ a w ht hn hd hr => ?_⟩
    have e' : (compCode E false 0 m c).g (run E q n) tm [] h (fun e tm ds h => match ds with | [] => k e tm h | _ => none) = some L := e
    refine wpIn_mono (code_sound (top := false) ok qs ih c tm [] h _ L e' (some l) j ρ a w (fun h => by cases h) ht hn (by rw [hd]; exact .nil) hr) ?_
    rintro e1 a1 w1 ⟨ex, tm', ds', ρ', h', L', q1, q2, q3, q4, q5, q6, q7, q8⟩
    cases ds' with
    | cons d ds => cases q7
    | nil => exact ⟨ex, tm', ρ', h', L', q1, q2, q3, (by generalize a1.defers = D at q4; cases q4; rfl), q5, q6, q7, q8⟩
end
end Go.FX
