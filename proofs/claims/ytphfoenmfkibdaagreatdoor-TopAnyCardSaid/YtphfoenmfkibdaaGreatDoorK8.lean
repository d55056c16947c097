/- TopAny: its code with the rest of the octet told ahead, sound. -/
import Derived.Test.YtphfoenmfkibdaaGreatDoorKG2
import Derived.Test.YtphfoenmfkibdaaGreatDoorKInv
import Derived.KernelRfl
set_option linter.unusedSectionVars false
set_option linter.unusedVariables false
set_option linter.unusedSimpArgs false
set_option maxRecDepth 1000000
namespace Go.FX
open Go.Proofs Lt

/-! ### TopAny: the octet's rest told ahead -/

noncomputable def spine : Nat → Code → Code
  | 0, .seq x _ => x
  | n + 1, .seq _ y => spine n y
  | _, c => c
noncomputable def patch (E : Env) (fn : FuncId) (n : Nat) (s : FR → Tm → List Nat → Heap → KC → R) : Nat → Code → CCode
  | 0, .seq _ y => (match compCode E true fn n y with
    | ⟨g⟩ => ⟨fun r tm ds h k => s r tm ds h fun e tm ds h => Ex.rec (g r tm ds h k) (fun id => k (.exit id) tm ds h) (k .ret tm ds h) e⟩)
  | m + 1, .seq x y => (match compCode E true fn n x, patch E fn n s m y with
    | ⟨f⟩, ⟨g⟩ => ⟨fun r tm ds h k => f r tm ds h fun e tm ds h => Ex.rec (g r tm ds h k) (fun id => k (.exit id) tm ds h) (k .ret tm ds h) e⟩)
  | _, _ => ⟨fun _ _ _ _ _ => none⟩
noncomputable def compFP (E : Env) (s : FR → Tm → List Nat → Heap → KC → R) (m : Nat) (f : FuncId) : CF :=
  match T.get E.ft f with
  | some fn => (match fn.body with
    | some b => (match patch E f fn.ntmps s m b, outs E fn.results.toList with
      | ⟨g⟩, ⟨o⟩ => ⟨fun r vs h k => enter fn.ntmps vs fun tm => g r tm [] h fun e tm ds h => Ex.rec (undefer E.lo ds h fun h => o tm h fun l => tuple l fun v => k v h) (fun _ => none) (undefer E.lo ds h fun h => o tm h fun l => tuple l fun v => k v h) e⟩)
    | none => ⟨fun _ _ _ _ => none⟩)
  | none => ⟨fun _ _ _ _ => none⟩
/-- The region 'first := int(skip) % 3', where skip is the octet and the rest is c. -/
noncomputable def skipC (n c : Nat) : FR → Tm → List Nat → Heap → KC → R := fun _ tm ds h k => match Tm.at tm 2 with
  | .o (.chan none) => (put n (some 49)).f tm .u fun tm => (put n (some 50)).f tm .u fun tm => (put n (some 51)).f tm .u fun tm => (put n (some 10)).f tm (.i .i64 (.ofNat c)) fun tm => k .normal tm ds h
  | _ => none

def n7 {α : Type} (f : Nat → α) : N α := ⟨f 0, f 1, f 2, f 3, f 4, f 5, f 6⟩
theorem n7_at {α : Type} (f : Nat → α) (i : Nat) (h : i < 7) : N.at (n7 f) i = f i := by
  rcases i with _ | _ | _ | _ | _ | _ | _ | i <;> first | rfl | omega
def tmOf (f : Nat → FV) : Tm := n7 fun a => n7 fun b => n7 fun c => f (49 * a + 7 * b + c)
theorem tmOf_at (f : Nat → FV) (j : Nat) (h : j < 343) : Tm.at (tmOf f) j = f j := by
  unfold Tm.at tmOf
  rw [n7_at _ _ (by omega), n7_at _ _ (by omega), n7_at _ _ (by omega)]
  congr 1
  omega
def one (t : Nat) (x : FV) : Tm := tmOf fun j => bif Nat.beq j t then x else .u
theorem conv_eval (r : FR) (h : Heap) (k : K) (n : Nat) : (compOp E0 (.convert 5 3 (.tmp 49))).g r (one 49 (.i .u8 (.ofNat n))) h k = retI .i64 (wrapI .i64 (.ofNat n)) fun z => k z h := by kernel_rfl
theorem rem_eval (r : FR) (h : Heap) (k : K) (n : Nat) : (compOp E0 (.binOp .rem 3 (.tmp 50) (.const (.int .i64 3)) 3)).g r (one 50 (.i .i64 (.ofNat n))) h k =
    Bool.rec (retI .i64 (remF .i64 (.ofNat n) 3) fun z => k z h) (retU .i64 (Nat.mod n 3) fun z => k z h) (Nat.ble (Nat.mod n 3) 9223372036854775807) := by kernel_rfl
theorem move_eval (r : FR) (h : Heap) (k : K) (x : FV) : (compOp E0 (.move (.tmp 2))).g r (one 2 x) h k = k x h := by kernel_rfl
theorem assign_eval (r : FR) (h : Heap) (k : K) (x : FV) : (compOp E0 (.assign (.tmp 51))).g r (one 51 x) h k = k x h := by kernel_rfl
theorem wrap_octet : ∀ n, n < 256 → wrapI .i64 (.ofNat n) = .ofNat n := by decide +kernel

section
variable [Sym]
theorem one_TR {ρ : Rho} (hg : GR ρ) {t : Nat} {x : FV} {a : Array Value} (h : FVR ρ x (a.getD t undef)) : TR ρ (one t x) a := ⟨hg, fun j hj => by
  unfold one
  rw [tmOf_at _ _ hj]
  cases hb : Nat.beq j t with
  | true => rw [cond_true, Nat.eq_of_beq_eq_true hb]; exact h
  | false => rw [cond_false]; trivial⟩
/-- One operation with one operand, whose answer is known. -/
theorem one_op {r : FR} (fr : FRok Tryz.prog 9 r) {o : Oper} (hnc : isCallOp o.op = false) {t : Nat} {x y : FV} (he : ∀ h k, (compOp E0 o.op).g r (one t x) h k = k y h) {ro : Option Nat} {m : Nat} {ρ : Rho} {a : Act} {w : World} {h : Heap} (hg : GR ρ) (hx : FVR ρ x (a.tmps.getD t undef)) (hr : HR ρ h w)
    {K : Act → World → Prop} {Q : Exit → Act → World → Prop} (hK : ∀ v' w' ρ', FVR ρ' y v' → HR ρ' h w' → Ext 9 ρ h w ρ' h w' → K (a.put o.dst v') w') : o.wpIn (fence ro) m Tryz.prog a w K Q := by
  classical
  refine plain_wp (E := E0) (r := r) (k := fun v h' => if v = y ∧ h' = h then some [] else none) (L := []) env_ok eqs_ok hnc (by rw [he, if_pos ⟨rfl, rfl⟩]) (one_TR hg hx) hr ?_
  rintro v' w' ⟨v, ρ', h', L', q1, q2, q3, q4, q5⟩
  by_cases c : v = y ∧ h' = h
  · obtain ⟨rfl, rfl⟩ := c
    exact hK v' w' ρ' q1 q2 q3
  · dsimp only at q4; rw [if_neg c] at q4; cases q4
theorem put_ne {a : Act} {d j : Nat} {v : Value} (h : d ≠ j) : (a.put (some d) v).tmps.getD j undef = a.tmps.getD j undef := put_getD_ne a (some d) v j (by simpa using h)
noncomputable def reg7 : Code := match Tryz.f7.body with | some b => spine 5 b | none => .skip
noncomputable def ops7 : Array Oper := match reg7 with | .region _ ops _ => ops | _ => #[]
theorem reg7_is : reg7 = .region 7 ops7 false := by kernel_rfl
theorem ops7_is : ∃ o1 o2 o3 o4, ops7.toList = [o1,o2,o3,o4] ∧ o1.op = .move (.tmp 2) ∧ o1.dst = some 49 ∧ o1.guard = none ∧ o2.op = .convert 5 3 (.tmp 49) ∧ o2.dst = some 50 ∧ o2.guard = none ∧ o3.op = .binOp .rem 3 (.tmp 50) (.const (.int .i64 3)) 3 ∧ o3.dst = some 51 ∧ o3.guard = none ∧ o4.op = .assign (.tmp 51) ∧ o4.dst = some 10 ∧ o4.guard = none :=
  ⟨_, _, _, _, rfl, rfl, rfl, rfl, rfl, rfl, rfl, rfl, rfl, rfl, rfl, rfl, rfl⟩
theorem skip_code {r : FR} (fr : FRok Tryz.prog 9 r) {c : Nat} (hoct : Sym.oct < 256) (h3 : Sym.oct % 3 = c) : CodeS Tryz.prog E0 r 121 true (skipC 121 c) reg7 := by
  rw [reg7_is]
  intro tm ds h k L e ro m ρ a w htop ht hn hd hr
  unfold skipC at e
  split at e
  · rename_i h2
    have ht2 := ht.t 2 (by decide)
    rw [h2] at ht2
    have ht2' : a.tmps.getD 2 undef = .int .u8 (.ofNat Sym.oct) := by
      have h' : VR ρ (.chan none) (a.tmps.getD 2 undef) := ht2
      generalize a.tmps.getD 2 undef = z at h'
      cases h'; rfl
    obtain ⟨t1, p1, _, a1, _⟩ := put_sound e
    obtain ⟨t2, p2, _, a2, _⟩ := put_sound p1
    obtain ⟨t3, p3, _, a3, _⟩ := put_sound p2
    obtain ⟨t4, p4, _, a4, _⟩ := put_sound p3
    obtain ⟨o1, o2, o3, o4, hl, x1, x2, x3, y1, y2, y3, z1, z2, z3, u1, u2, u3⟩ := ops7_is
    refine wpIn_region_list ?_
    rw [hl]
    refine wpListIn_plain x3 fun K1 hK1 => one_op fr (t := 2) (x := .i .u8 (.ofNat Sym.oct)) (y := .i .u8 (.ofNat Sym.oct)) (by rw [x1]; rfl) (fun h k => by rw [x1]; exact move_eval r h k _) ht.g (by rw [ht2']; exact VR.int _ _) hr fun v1 w1 ρ1 b1 b2 b3 => hK1 _ _ ?_
    rw [x2]
    have e1 : v1 = .int .u8 (.ofNat Sym.oct) := by
      have b1' : VR ρ1 (.int .u8 (.ofNat Sym.oct)) v1 := b1
      cases b1'; rfl
    subst e1
    refine wpListIn_plain y3 fun K2 hK2 => one_op fr (t := 49) (x := .i .u8 (.ofNat Sym.oct)) (y := .i .i64 (.ofNat Sym.oct)) (by rw [y1]; rfl) (fun h k => by rw [y1, conv_eval, retI_eq, wrap_octet _ hoct]) (ht.g.later b3.later) (by rw [put_getD _ _ _ _ (by rw [hn]; decide), if_pos rfl]; exact VR.int _ _) b2 fun v2 w2 ρ2 c1 c2 c3 => hK2 _ _ ?_
    rw [y2]
    have e2 : v2 = .int .i64 (.ofNat Sym.oct) := by
      have b1' : VR ρ2 (.int .i64 (.ofNat Sym.oct)) v2 := c1
      cases b1'; rfl
    subst e2
    refine wpListIn_plain z3 fun K3 hK3 => one_op fr (t := 50) (x := .i .i64 (.ofNat Sym.oct)) (y := .i .i64 (.ofNat c)) (by rw [z1]; rfl) (fun h k => ?_) (ht.g.later (b3.later.trans c3.later)) (by rw [put_getD _ _ _ _ (by rw [put_size, hn]; decide), if_pos rfl]; exact VR.int _ _) c2 fun v3 w3 ρ3 d1 d2 d3 => hK3 _ _ ?_
    · rw [z1, rem_eval, show Nat.mod Sym.oct 3 = c from h3]
      have hc : c < 3 := by omega
      rw [retI_eq, retU_eq, Nat.ble_eq_true_of_le (show c ≤ 9223372036854775807 by omega)]
    rw [z2]
    have e3 : v3 = .int .i64 (.ofNat c) := by
      have b1' : VR ρ3 (.int .i64 (.ofNat c)) v3 := d1
      cases b1'; rfl
    subst e3
    refine wpListIn_plain u3 fun K4 hK4 => one_op fr (t := 51) (x := .i .i64 (.ofNat c)) (y := .i .i64 (.ofNat c)) (by rw [u1]; rfl) (fun h k => by rw [u1]; exact assign_eval r h k _) (ht.g.later (b3.later.trans (c3.later.trans d3.later))) (by rw [put_getD _ _ _ _ (by rw [put_size, put_size, hn]; decide), if_pos rfl]; exact VR.int _ _) d2 fun v4 w4 ρ4 f1 f2 f3 => hK4 _ _ ?_
    rw [u2]
    have hext : Ext 9 ρ h w ρ4 h w4 := b3.trans (c3.trans (d3.trans f3))
    refine wpListIn_nil ⟨.normal, t4, ds, ρ4, h, L, rfl, ⟨ht.g.later hext.later, fun j hj => ?_⟩, by rw [put_size, put_size, put_size, put_size, hn], ?_, f2, hext, p4, fun _ h => h⟩
    · rw [a4 j hj, a3 j hj, a2 j hj, a1 j hj]
      by_cases c10 : j = 10
      · subst c10
        rw [if_pos rfl, put_getD _ _ _ _ (by rw [put_size, put_size, put_size, hn]; decide), if_pos rfl]
        exact f1
      · rw [if_neg (by simpa using fun h => c10 h.symm), put_ne (fun h => c10 h.symm)]
        by_cases c51 : j = 51
        · subst c51; rw [if_pos rfl]; trivial
        · rw [if_neg (by simpa using fun h => c51 h.symm), put_ne (fun h => c51 h.symm)]
          by_cases c50 : j = 50
          · subst c50; rw [if_pos rfl]; trivial
          · rw [if_neg (by simpa using fun h => c50 h.symm), put_ne (fun h => c50 h.symm)]
            by_cases c49 : j = 49
            · subst c49; rw [if_pos rfl]; trivial
            · rw [if_neg (by simpa using fun h => c49 h.symm), put_ne (fun h => c49 h.symm)]
              exact (ht.t j hj).later hext.later
    · rw [put_defers', put_defers', put_defers', put_defers']
      exact hd.later hext.later
  · cases e
theorem patch_sound {P : Program} {E : Env} (ok : EnvOk P E) (qs : EqsOk P E) {r : FR} (fr : FRok P E.lo r) {fn : FuncId} {n : Nat} {s : FR → Tm → List Nat → Heap → KC → R} : ∀ (m : Nat) (c : Code), CodeS P E r n true s (spine m c) → CodeS P E r n true (patch E fn n s m c).g c
  | 0, .seq x y, h => seq_code h (code_sound ok qs fr y)
  | m + 1, .seq x y, h => seq_code (code_sound ok qs fr x) (patch_sound ok qs fr m y h)
  | 0, .skip, _ | 0, .label _, _ | 0, .region .., _ | 0, .cond .., _ | 0, .block .., _ | 0, .loop _, _ | 0, .exit _, _ | 0, .ret, _ | 0, .rangeFunc .., _ | 0, .goto _, _ | 0, .scope _, _ | 0, .refuse _, _
  | _ + 1, .skip, _ | _ + 1, .label _, _ | _ + 1, .region .., _ | _ + 1, .cond .., _ | _ + 1, .block .., _ | _ + 1, .loop _, _ | _ + 1, .exit _, _ | _ + 1, .ret, _ | _ + 1, .rangeFunc .., _ | _ + 1, .goto _, _ | _ + 1, .scope _, _ | _ + 1, .refuse _, _ => none_code n true _
theorem funcP_sound {P : Program} {E : Env} (ok : EnvOk P E) (qs : EqsOk P E) (hname : ∀ f fn, T.get E.ft f = some fn → fn.name ≠ "runtime.NumGoroutine") {r : FR} (fr : FRok P E.lo r) {s : FR → Tm → List Nat → Heap → KC → R} {m : Nat} {f : FuncId}
    (hs : ∀ fn b, T.get E.ft f = some fn → fn.body = some b → CodeS P E r fn.ntmps true s (spine m b))
    {vs : List FV} {h : Heap} {k : K} {L : List (FV × Heap)} (e : (compFP E s m f).g r vs h k = some L) {ρ : Rho} {args : Array Value} {w : World}
    (hg : GR ρ) (ha : All2 (FVR ρ) vs args.toList) (hr : HR ρ h w) :
    (callFunc f args).run P w = .ok (.enter f args) w ∧ Calls P f args w fun e w' => ∃ v', e = .returned v' ∧ OpOut P E.lo k L ρ h w v' w' := by
  unfold compFP at e
  cases hf : T.get E.ft f with
  | none => rw [hf] at e; cases e
  | some fn =>
    rw [hf] at e
    dsimp only at e
    cases hb : fn.body with
    | none => rw [hb] at e; cases e
    | some b =>
      rw [hb] at e
      have e' : enter fn.ntmps vs (fun tm => (patch E f fn.ntmps s m b).g r tm [] h fun e tm ds h => Ex.rec (undeferFrom E.lo (fun h => (outs E fn.results.toList).g tm h fun l => tuple l fun v => k v h) ds h) (fun _ => none) (undeferFrom E.lo (fun h => (outs E fn.results.toList).g tm h fun l => tuple l fun v => k v h) ds h) e) = some L := e
      obtain ⟨tm, e1, e2⟩ := enter_some e'
      obtain ⟨h1, h2⟩ := e2 ρ args hg ha
      have hf' := ok.ft _ _ hf
      refine ⟨?_, (callsIn_wide (n := 0)).1 (callsIn_of_wp_marks hf' hb trivial (wpIn_mono (patch_sound ok qs fr (fn := f) m b (hs fn b hf hb) tm [] h _ L e1 none 0 ρ ⟨args ++ Array.replicate (fn.ntmps - args.size) undef, []⟩ w (fun _ => rfl) h1 h2 .nil hr) ?_))⟩
      · unfold callFunc
        have hn := hname _ _ hf
        have hp : (program).run P w = .ok P w := rfl
        simp only [Sem.run_bind, hp, Result.andThen_ok, hf', hb, Option.isNone_some, Bool.false_eq_true, if_false, beq_iff_eq, hn]
        rfl
      · rintro e3 a' w' ⟨ex, tm', ds', ρ', h', L', q1, q2, q3, q4, q5, q6, q7, q8⟩
        have key : ∀ L', undeferFrom E.lo (fun h => (outs E fn.results.toList).g tm' h fun l => tuple l fun v => k v h) ds' h' = some L' → (∀ x ∈ L', x ∈ L) → LeavesInM Fence.wide 0 P fn a'.tmps (fun e w' => ∃ v', e = .returned v' ∧ OpOut P E.lo k L ρ h w v' w') a'.defers .returning w' := by
          intro L' hu hl
          refine undefer_sound ds' a'.defers ρ' h' w' L' hu q4 q5 fun h2 w2 g1 g2 g3 => ?_
          obtain ⟨l, g4, g5⟩ := outs_sound ok _ g3
          obtain ⟨v, g6, g7⟩ := tuple_some g4
          obtain ⟨l', g8, g9⟩ := g5 ρ' a'.tmps w2 q2 g1.s
          refine ⟨_, ?_, _, rfl, v, ρ', h2, L', g7 ρ' l' g9, g1, q6.trans g2, g6, hl⟩
          rw [results_eq]
          simp only [Sem.run_bind, g8, Result.andThen_ok, Sem.run_pure]
        cases ex with
        | normal => cases q1; exact key L' q7 q8
        | exit id => cases q7
        | ret => cases q1; exact key L' q7 q8
end
end Go.FX
