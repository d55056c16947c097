/- Calls reckoned ahead; the field of numbers by contract; symbols for numbers that are not known. -/
import Derived.Test.YtphfoenmfkibdaaGreatDoorTB
import Derived.Test.YtphfoenmfkibdaaGreatDoorProg
import Derived.Shelf.Bits.Mul64
set_option linter.unusedSectionVars false
set_option linter.unusedVariables false
set_option linter.unusedSimpArgs false
set_option maxRecDepth 1000000
namespace Go.FX
open Go.Proofs

/-! ### Calls that were reckoned ahead -/

def kR : List Nat := [0x428a2f98, 0x71374491, 0xb5c0fbcf, 0xe9b5dba5, 0x3956c25b, 0x59f111f1, 0x923f82a4, 0xab1c5ed5,
  0xd807aa98, 0x12835b01, 0x243185be, 0x550c7dc3, 0x72be5d74, 0x80deb1fe, 0x9bdc06a7, 0xc19bf174,
  0xe49b69c1, 0xefbe4786, 0x0fc19dc6, 0x240ca1cc, 0x2de92c6f, 0x4a7484aa, 0x5cb0a9dc, 0x76f988da,
  0x983e5152, 0xa831c66d, 0xb00327c8, 0xbf597fc7, 0xc6e00bf3, 0xd5a79147, 0x06ca6351, 0x14292967,
  0x27b70a85, 0x2e1b2138, 0x4d2c6dfc, 0x53380d13, 0x650a7354, 0x766a0abb, 0x81c2c92e, 0x92722c85,
  0xa2bfe8a1, 0xa81a664b, 0xc24b8b70, 0xc76c51a3, 0xd192e819, 0xd6990624, 0xf40e3585, 0x106aa070,
  0x19a4c116, 0x1e376c08, 0x2748774c, 0x34b0bcb5, 0x391c0cb3, 0x4ed8aa4a, 0x5b9cca4f, 0x682e6ff3,
  0x748f82ee, 0x78a5636f, 0x84c87814, 0x8cc70208, 0x90befffa, 0xa4506ceb, 0xbef9a3f7, 0xc67178f2]
def ints (k : IntKind) : List Nat → List Value
  | [] => []
  | n :: r => .int k (.ofNat n) :: ints k r
/-- sha's table, in its block. -/
def roundsB : Blk := .cells (ints .u32 kR) 409 1000 false
noncomputable def hR : Heap := ⟨T.set dH .nil 0 (.leaf roundsB), 9⟩
noncomputable def out1 : K := fun v h => some [(v, h)]

/-- A call whose arguments and result have no address. -/
structure PEnt where
  f : FuncId
  vs : List FV
  v : FV
def isIntV : Value → Bool
  | .int _ _ => true
  | _ => false
def plainV : FV → Bool
  | .i _ _ => true
  | .b _ => true
  | .o (.agg l) => allV isIntV l.toList
  | _ => false
def plains : List FV → Bool
  | [] => true
  | x :: xs => plainV x && plains xs
noncomputable def fvsEq : List FV → List FV → Bool
  | [], [] => true
  | x :: xs, y :: ys => fvEq x y && fvsEq xs ys
  | _, _ => false
noncomputable def pureB (E : Env) (e : PEnt) : Bool := plainV e.v && plains e.vs && (match (run E ⟨fun _ => none⟩ 40).call e.f e.vs hR out1 with
  | some l => l.all fun x => fvEq e.v x.1
  | none => false)
noncomputable def findP (vs : List FV) : List PEnt → Option FV
  | [] => none
  | e :: es => bif fvsEq e.vs vs then some e.v else findP vs es
/-- The calls of one function, looked up. -/
noncomputable def pureK (l : List PEnt) : CF := ⟨fun _ vs h k => match Heap.get h 0 with
  | some b => bif blkEq b roundsB then (match findP vs l with | some v => k v h | none => none) else none
  | none => none⟩

variable [Sym]
theorem int_any {ρ ρ' : Rho} {v v' : Value} (h : isIntV v = true) (hv : VR ρ v v') : v' = v ∧ VR ρ' v v' := by
  cases v <;> first | (exfalso; simp [isIntV] at h; done) | skip
  cases hv; exact ⟨rfl, .int _ _⟩
theorem ints_any {ρ ρ' : Rho} : ∀ {vs vs' : List Value}, allV isIntV vs = true → VRs ρ vs vs' → VRs ρ' vs vs'
  | _, _, _, .nil => .nil
  | _, _, h, .cons a b => by
    unfold allV at h
    obtain ⟨h1, h2⟩ := and_true' h
    exact .cons (int_any h1 a).2 (ints_any h2 b)
theorem plain_any {ρ ρ' : Rho} {x : FV} {v' : Value} (h : plainV x = true) (hv : FVR ρ x v') : FVR ρ' x v' := by
  cases x <;> first | (exfalso; simp [plainV] at h; done) | skip
  · exact (int_any (v := .int _ _) rfl hv).2
  · have hv' : VR ρ (.bool _) v' := hv
    cases hv'
    exact VR.bool _
  · rename_i v
    cases v <;> first | (exfalso; simp [plainV] at h; done) | skip
    rename_i l
    have h' : allV isIntV l.toList = true := h
    have hv' : VR ρ (.agg l) v' := hv
    obtain ⟨ys, rfl, g⟩ := hv'.agg_inv
    exact VR.agg (ints_any h' g)
theorem plains_any {ρ ρ' : Rho} : ∀ {vs : List FV} {vs' : List Value}, plains vs = true → All2 (FVR ρ) vs vs' → All2 (FVR ρ') vs vs'
  | _, _, _, .nil => .nil
  | _, _, h, .cons a b => by
    unfold plains at h
    obtain ⟨h1, h2⟩ := and_true' h
    exact .cons (plain_any h1 a) (plains_any h2 b)
theorem fvsEq_eq : ∀ {xs ys : List FV}, fvsEq xs ys = true → xs = ys
  | [], [], _ => rfl
  | x :: xs, y :: ys, h => by
    unfold fvsEq at h
    obtain ⟨h1, h2⟩ := and_true' h
    rw [(fvEq_eq h1).1, fvsEq_eq h2]
  | [], _ :: _, h => by cases h
  | _ :: _, [], h => by cases h
theorem findP_some {vs : List FV} : ∀ {l : List PEnt} {v : FV}, findP vs l = some v → ∃ e ∈ l, e.vs = vs ∧ e.v = v
  | [], v, h => by cases h
  | e :: es, v, h => by
    unfold findP at h
    cases hb : fvsEq e.vs vs with
    | true => rw [hb] at h; cases h; exact ⟨e, List.mem_cons_self, fvsEq_eq hb, rfl⟩
    | false =>
      rw [hb] at h
      obtain ⟨e', h1, h2⟩ := findP_some h
      exact ⟨e', List.mem_cons_of_mem _ h1, h2⟩
theorem all_ints {k : IntKind} : ∀ (l : List Nat), allV isIntV (ints k l) = true
  | [] => rfl
  | n :: r => all_ints r
theorem hR_get (k : Nat) : hR.get k = if k = 0 then some roundsB else none := by
  show T.get (T.set dH .nil 0 (.leaf roundsB)) k = _
  rw [T.get_set (.leaf roundsB) (leaf_none _) dH .nil 0 k trivial (by decide), leaf_some]
  rfl
/-- What holds on sha's table alone holds of any heap that has it. -/
theorem lone_call {P : Program} {lo : Nat} (hlo : lo = 9) {f : FuncId} {vs : List FV} {v : FV} (hv : plainV v = true) (hvs : plains vs = true)
    (hcall : ∀ ρ (args : Array Value) w, GR ρ → All2 (FVR ρ) vs args.toList → HR ρ hR w → (callFunc f args).run P w = .ok (.enter f args) w ∧ Calls P f args w fun e w' => ∃ v', e = .returned v' ∧ ∃ ρ' h', FVR ρ' v v' ∧ Ext lo ρ hR w ρ' h' w')
    {h : Heap} (hb : h.get 0 = some roundsB) {ρ : Rho} {args : Array Value} {w : World} (hg : GR ρ) (ha : All2 (FVR ρ) vs args.toList) (hr : HR ρ h w) :
    (callFunc f args).run P w = .ok (.enter f args) w ∧ Calls P f args w fun e w' => ∃ v', e = .returned v' ∧ FVR ρ v v' ∧ HR ρ h w' ∧ Ext lo ρ h w ρ h w' := by
  subst hlo
  obtain ⟨i, hi⟩ : ∃ i, ρ 0 = .at 0 0 i := by
    rcases hg 0 (by decide) with h0 | h0
    · rw [hr.dead h0] at hb; cases hb
    · exact h0
  obtain ⟨B, o, g1, g2, g3⟩ := hr.at hi
  rw [hb] at g1; cases g1
  let ρ0 : Rho := fun k => if k = 0 then .at 0 0 i else if k < 9 then .dead else .fresh
  have z0 : ρ0 0 = .at 0 0 i := rfl
  have zn : ∀ k b s j, ρ0 k = .at b s j → k = 0 := fun k b s j e => by
    simp only [ρ0] at e
    split at e
    · assumption
    · split at e <;> cases e
  have hg0 : GR ρ0 := fun g hg => by
    by_cases c : g = 0
    · subst c; exact .inr ⟨i, rfl⟩
    · left
      have : g < 4 := hg
      simp only [ρ0, if_neg c, if_pos (by omega : g < 9)]
  have hr0 : HR ρ0 hR w := by
    refine ⟨T.wf_set (x := .leaf roundsB) (fun d e => (by subst e; trivial)) dH .nil 0 (show T.wf dH (.nil : T Blk) from trivial), fun k => ?_, fun k k' b s j s' j' e e' => by rw [zn _ _ _ _ e, zn _ _ _ _ e'], fun k hk => ?_, fun k hk => ?_⟩
    · by_cases c : k = 0
      · subst c
        rw [z0]
        refine ⟨roundsB, o, by rw [hR_get, if_pos rfl], g2, ?_⟩
        obtain ⟨c, ct, lo, hi, q1, q2, q3, q4, q5⟩ := g3
        refine ⟨c, ct, lo, hi, q1, q2, q3, q4, fun j v hj => ?_⟩
        obtain ⟨v', w1, w2⟩ := q5 j v hj
        refine ⟨v', w1, (int_any ?_ w2).2⟩
        have hm : ∀ (l : List Nat) (j : Nat) (v : Value), (ints .u32 l)[j]? = some v → isIntV v = true := by
          intro l
          induction l with
          | nil => intro j v hj; simp [ints] at hj
          | cons n r ih =>
            intro j v hj
            cases j with
            | zero => simp [ints] at hj; subst hj; rfl
            | succ j => exact ih j v (by simpa [ints] using hj)
        exact hm _ _ _ hj
      · simp only [ρ0, if_neg c]
        split
        · rename_i hh; split at hh <;> first | trivial | cases hh
        · rw [hR_get, if_neg c]
        · rename_i hh; split at hh <;> cases hh
    · have hk : 9 ≤ k := hk
      simp only [ρ0, if_neg (by omega : ¬ k = 0), if_neg (by omega : ¬ k < 9)]
    · have hk : 9 ≤ k := hk
      rw [hR_get, if_neg (by omega)]
  obtain ⟨c1, c2⟩ := hcall ρ0 args w hg0 (plains_any hvs ha) hr0
  refine ⟨c1, Calls.mono c2 ?_⟩
  rintro e4 w' ⟨v', rfl, ρ', h', q1, q3⟩
  have hkeep : ∀ b, b < w.heap.size → w'.heap[b]? = w.heap[b]? := fun b hb => q3.keep b hb fun k s j hk e => by
    have := zn _ _ _ _ e
    omega
  refine ⟨v', rfl, plain_any hv q1, ⟨hr.wf, fun k => ?_, hr.inj, hr.nx, hr.top⟩, ⟨.refl ρ, fun k _ e => ⟨e, .inl rfl⟩, fun k b s i hk e => .inr ⟨k, s, i, hk, e⟩, Nat.le_refl _, q3.size, fun b hb _ => hkeep b hb, q3.os, q3.tape, q3.output⟩⟩
  have := hr.blk k
  cases hk : ρ k with
  | fresh => trivial
  | dead => simp only [hk] at this; exact this
  | «at» b s j =>
    simp only [hk] at this
    obtain ⟨B, o, f1, f2, f3⟩ := this
    exact ⟨B, o, f1, by rw [hkeep b (lt_of_get f2)]; exact f2, f3⟩
/-- Calls of one function that were reckoned on sha's table alone. -/
theorem pure_call {P : Program} {E : Env} (ok : EnvOk P E) (qs : EqsOk P E) (hname : ∀ f fn, T.get E.ft f = some fn → fn.name ≠ "runtime.NumGoroutine") (hlo : E.lo = 9) {f : FuncId} {l : List PEnt} (hl : ∀ e ∈ l, e.f = f ∧ pureB E e = true) (r : FR) : CallS P E.lo ((pureK l).g r) f := by
  intro vs h k L e ρ args w hg ha hr
  unfold pureK at e
  dsimp only at e
  split at e
  · rename_i b hb
    cases hbe : blkEq b roundsB with
    | false => rw [hbe] at e; cases e
    | true =>
      rw [hbe, cond_true] at e
      have hbe := blkEq_eq hbe
      subst hbe
      split at e
      · rename_i v hv
        obtain ⟨en, e1, e2, e3⟩ := findP_some hv
        subst e2 e3
        obtain ⟨hf, hp⟩ := hl en e1
        subst hf
        unfold pureB at hp
        obtain ⟨hp1, hp2⟩ := and_true' hp
        obtain ⟨hp3, hp4⟩ := and_true' hp1
        split at hp2
        · rename_i L0 hL0
          obtain ⟨c1, c2⟩ := lone_call (P := P) (lo := E.lo) hlo hp3 hp4 (fun ρ0 args w hg0 ha0 hr0 => by
            obtain ⟨c1, c2⟩ := (run_ok ok qs hname (q := ⟨fun _ => none⟩) (fun f c h => by cases h) 40).call en.f en.vs hR out1 L0 hL0 ρ0 args w hg0 ha0 hr0
            refine ⟨c1, Calls.mono c2 ?_⟩
            rintro e4 w' ⟨v', rfl, v2, ρ', h', L', q1, q2, q3, q4, q5⟩
            cases q4
            have hm := List.all_eq_true.1 hp2 _ (q5 _ (List.mem_singleton.2 rfl))
            have hv2 := (fvEq_eq hm).1
            dsimp only at hv2
            subst hv2
            exact ⟨v', rfl, ρ', h', q1, q3⟩) hb hg ha hr
          refine ⟨c1, Calls.mono c2 ?_⟩
          rintro e4 w' ⟨v', rfl, q1, q2, q3⟩
          exact ⟨v', rfl, en.v, ρ, h, L, q1, q2, q3, e, fun _ h => h⟩
        · cases hp2
      · cases e
  · cases e
/-- A call that was reckoned on sha's table alone, from here on known. -/
noncomputable def loneK (vs : List FV) (v : FV) : CF := ⟨fun _ us h k => match Heap.get h 0 with
  | some b => bif blkEq b roundsB && fvsEq vs us then k v h else none
  | none => none⟩
theorem loneK_call {P : Program} {lo : Nat} (hlo : lo = 9) {f : FuncId} {vs : List FV} {v : FV} (hv : plainV v = true) (hvs : plains vs = true)
    (hcall : ∀ ρ (args : Array Value) w, GR ρ → All2 (FVR ρ) vs args.toList → HR ρ hR w → (callFunc f args).run P w = .ok (.enter f args) w ∧ Calls P f args w fun e w' => ∃ v', e = .returned v' ∧ ∃ ρ' h', FVR ρ' v v' ∧ Ext lo ρ hR w ρ' h' w') (r : FR) : CallS P lo ((loneK vs v).g r) f := by
  intro us h k L e ρ args w hg ha hr
  unfold loneK at e
  dsimp only at e
  split at e
  · rename_i b hb
    cases hbe : (blkEq b roundsB && fvsEq vs us) with
    | false => rw [hbe] at e; cases e
    | true =>
      rw [hbe, cond_true] at e
      obtain ⟨h1, h2⟩ := and_true' hbe
      have h1 := blkEq_eq h1
      have h2 := fvsEq_eq h2
      subst h1 h2
      obtain ⟨c1, c2⟩ := lone_call hlo hv hvs hcall hb hg ha hr
      refine ⟨c1, Calls.mono c2 ?_⟩
      rintro e4 w' ⟨v', rfl, q1, q2, q3⟩
      exact ⟨v', rfl, v, ρ, h, L, q1, q2, q3, e, fun _ h => h⟩
  · cases e
end Go.FX
namespace Go.FX
open Go.Proofs Go.RowKit Go.Lib
set_option maxHeartbeats 1000000 in
theorem c_mul64 (x y : Nat) (hx : x < 18446744073709551616) (hy : y < 18446744073709551616) (w : World) :
    Calls Tryz.prog 83 #[.int .u64 x, .int .u64 y] w fun e w' => e = .returned (.tuple #[.int .u64 ((x * y / 18446744073709551616 : Nat) : Int), .int .u64 ((x * y % 18446744073709551616 : Nat) : Int)]) ∧ w' = w := by
  obtain ⟨bd, bt, bw, hhi⟩ := Lib.mul64_hi x y hx hy
  have ba := Lib.half_mul_le (a := x / 4294967296) (b := y / 4294967296) (by omega) (by omega)
  have bb := Lib.half_mul_le (a := x / 4294967296) (b := y % 4294967296) (by omega) (by omega)
  have bc := Lib.half_mul_le (a := x % 4294967296) (b := y / 4294967296) (by omega) (by omega)
  have ba' : x / 4294967296 * (y / 4294967296) < 18446744073709551616 := by omega
  have bb' : x / 4294967296 * (y % 4294967296) < 18446744073709551616 := by omega
  have bc' : x % 4294967296 * (y / 4294967296) < 18446744073709551616 := by omega
  have bh1 : x / 4294967296 * (y / 4294967296) + (x / 4294967296 * (y % 4294967296) + x % 4294967296 * (y % 4294967296) / 4294967296) / 4294967296 < 18446744073709551616 := by omega
  have bh : x / 4294967296 * (y / 4294967296) + (x / 4294967296 * (y % 4294967296) + x % 4294967296 * (y % 4294967296) / 4294967296) / 4294967296 + ((x / 4294967296 * (y % 4294967296) + x % 4294967296 * (y % 4294967296) / 4294967296) % 4294967296 + x % 4294967296 * (y / 4294967296)) / 4294967296 < 18446744073709551616 := by omega
  go_enter Tryz.func83, Tryz.ntmps83
  go_wp2
  simp only [Mul64.maskN x hx, Mul64.maskN y hy, Mul64.divN, Mul64.mulN, Mul64.addN, Mul64.wrapN _ bd, Mul64.wrapN _ bb', Mul64.wrapN _ bt, Mul64.maskN _ bt, Mul64.wrapN _ bc', Mul64.wrapN _ bw, Mul64.wrapN _ ba', Mul64.wrapN _ bh1, Mul64.wrapN _ bh, Mul64.wrapM (x * y)]
  rw [hhi]
  go_ret2
  exact ⟨rfl, rfl⟩
/-- The field's number. -/
abbrev FP : Nat := 2305843009213693951
set_option maxHeartbeats 400000 in
theorem c_of (x : Nat) (w : World) : Calls Tryz.prog 82 #[.int .u64 x] w fun e w' => e = .returned (.int .u64 ((x % 2305843009213693951 : Nat) : Int)) ∧ w' = w := by
  have h : (x : Int).tmod 2305843009213693951 = ((x % 2305843009213693951 : Nat) : Int) := rfl
  go_enter Tryz.func82, Tryz.ntmps82
  go_wp2
  go_ret
  exact ⟨rfl, rfl⟩
set_option maxHeartbeats 400000 in
theorem c_add (x y : Nat) (w : World) : Calls Tryz.prog 49 #[.int .u64 x, .int .u64 y] w fun e w' => e = .returned (.int .u64 (((x % 2305843009213693951 + y % 2305843009213693951) % 2305843009213693951 : Nat) : Int)) ∧ w' = w := by
  have c3 : ∀ w, Calls Tryz.prog 82 #[.int .u64 ((x : Int) % 2305843009213693951 + (y : Int) % 2305843009213693951)] w fun e w' => e = .returned (.int .u64 (((x % 2305843009213693951 + y % 2305843009213693951) % 2305843009213693951 : Nat) : Int)) ∧ w' = w := fun w => by
    rw [show (x : Int) % 2305843009213693951 + (y : Int) % 2305843009213693951 = ((x % 2305843009213693951 + y % 2305843009213693951 : Nat) : Int) by omega]
    exact c_of _ w
  go_enter Tryz.func49, Tryz.ntmps49
  go_wp2_with (first
    | (go_at_call 82; refine (c_of x _).mono ?_; rintro e w' ⟨rfl, rfl⟩)
    | (go_at_call 82; refine (c_of y _).mono ?_; rintro e w' ⟨rfl, rfl⟩)
    | (go_at_call 82; refine (c3 _).mono ?_; rintro e w' ⟨rfl, rfl⟩))
  go_ret
  simp
/-- hi * 8 + lo / 2^61 and the rest below, is the product in the field. -/
theorem fold61 (p : Nat) (hp : p < 2305843009213693952 * 2305843009213693952) :
    (((p / 18446744073709551616 * 8 + p % 18446744073709551616 / 2305843009213693952) + p % 18446744073709551616 % 2305843009213693952) % 2305843009213693951) = p % 2305843009213693951 := by
  have h1 : p / 18446744073709551616 * 8 + p % 18446744073709551616 / 2305843009213693952 = p / 2305843009213693952 := by omega
  have h2 : p % 18446744073709551616 % 2305843009213693952 = p % 2305843009213693952 := by omega
  rw [h1, h2]
  omega
theorem fold_bits (p : Nat) (hp : p < 2305843009213693952 * 2305843009213693952) :
    IntKind.u64.wrap (bits .or .u64 (IntKind.u64.wrap ((p : Int) / 18446744073709551616 * 8)) ((p : Int) % 18446744073709551616 / 2305843009213693952) + bits .and .u64 ((p : Int) % 18446744073709551616) 2305843009213693951) =
      ((p / 18446744073709551616 * 8 + p % 18446744073709551616 / 2305843009213693952 + p % 18446744073709551616 % 2305843009213693952 : Nat) : Int) := by
  have e1 : (p : Int) / 18446744073709551616 * 8 = ((p / 18446744073709551616 * 8 : Nat) : Int) := by omega
  have e2 : (p : Int) % 18446744073709551616 / 2305843009213693952 = ((p % 18446744073709551616 / 2305843009213693952 : Nat) : Int) := by omega
  have e3 : (p : Int) % 18446744073709551616 = ((p % 18446744073709551616 : Nat) : Int) := by omega
  rw [e2, e1, e3, Mul64.wrapN _ (by omega)]
  have h1 := bits_or_u64_nat (p / 18446744073709551616 * 8) (p % 18446744073709551616 / 2305843009213693952) (by omega) (by omega)
  have h2 := bits_and_u64_nat (p % 18446744073709551616) 2305843009213693951 (by omega) (by omega)
  have h3 : p % 18446744073709551616 &&& 2305843009213693951 = p % 18446744073709551616 % 2305843009213693952 := Nat.and_two_pow_sub_one_eq_mod _ 61
  have h4 : p / 18446744073709551616 * 8 ||| p % 18446744073709551616 / 2305843009213693952 = p / 18446744073709551616 * 8 + p % 18446744073709551616 / 2305843009213693952 := by
    have := Nat.two_pow_add_eq_or_of_lt (i := 3) (b := p % 18446744073709551616 / 2305843009213693952) (by omega) (p / 18446744073709551616)
    rw [show p / 18446744073709551616 * 8 = 2 ^ 3 * (p / 18446744073709551616) by omega]
    exact this.symm
  rw [h3] at h2
  rw [h4] at h1
  rw [h1]
  have h2' : bits .and .u64 ((p % 18446744073709551616 : Nat) : Int) 2305843009213693951 = _ := h2
  rw [h2', Mul64.addN, Mul64.wrapN _ (by omega)]
set_option maxHeartbeats 1000000 in
theorem c_mul (x y : Nat) (w : World) : Calls Tryz.prog 50 #[.int .u64 x, .int .u64 y] w fun e w' => e = .returned (.int .u64 ((x % 2305843009213693951 * (y % 2305843009213693951) % 2305843009213693951 : Nat) : Int)) ∧ w' = w := by
  have cm : ∀ w, Calls Tryz.prog 83 #[.int .u64 ((x : Int) % 2305843009213693951), .int .u64 ((y : Int) % 2305843009213693951)] w fun e w' => e = .returned (.tuple #[.int .u64 ((x % 2305843009213693951 * (y % 2305843009213693951) / 18446744073709551616 : Nat) : Int), .int .u64 ((x % 2305843009213693951 * (y % 2305843009213693951) % 18446744073709551616 : Nat) : Int)]) ∧ w' = w := fun w => by
    rw [show (x : Int) % 2305843009213693951 = ((x % 2305843009213693951 : Nat) : Int) by omega, show (y : Int) % 2305843009213693951 = ((y % 2305843009213693951 : Nat) : Int) by omega]
    exact c_mul64 _ _ (by omega) (by omega) w
  have hp : x % 2305843009213693951 * (y % 2305843009213693951) < 2305843009213693952 * 2305843009213693952 := Nat.mul_lt_mul'' (by omega) (by omega)
  generalize x % 2305843009213693951 * (y % 2305843009213693951) = p at *
  have cf : ∀ w, Calls Tryz.prog 82 #[.int .u64 (IntKind.u64.wrap (bits .or .u64 (IntKind.u64.wrap ((p : Int) / 18446744073709551616 * 8)) ((p : Int) % 18446744073709551616 / 2305843009213693952) + bits .and .u64 ((p : Int) % 18446744073709551616) 2305843009213693951))] w fun e w' => e = .returned (.int .u64 ((p % 2305843009213693951 : Nat) : Int)) ∧ w' = w := fun w => by
    rw [fold_bits p hp, ← fold61 p hp]
    exact c_of _ w
  clear hp
  go_enter Tryz.func50, Tryz.ntmps50
  go_wp2_with (first
    | (go_at_call 82; refine (c_of x _).mono ?_; rintro e w' ⟨rfl, rfl⟩)
    | (go_at_call 82; refine (c_of y _).mono ?_; rintro e w' ⟨rfl, rfl⟩)
    | (go_at_call 83; refine (cm _).mono ?_; rintro e w' ⟨rfl, rfl⟩)
    | (go_at_call 82; refine (cf _).mono ?_; rintro e w' ⟨rfl, rfl⟩))
  go_ret
  simp
end Go.FX
namespace Go.FX
open Go.Proofs

/-! ### Linear forms, as numbers: nine digits of 64 bits -/

def W64 : Nat := 18446744073709551616
def digits : Nat → Nat → List Nat
  | 0, _ => []
  | n + 1, m => Nat.mod m W64 :: digits n (Nat.div m W64)
def encode : List Nat → Nat
  | [] => 0
  | d :: ds => Nat.add d (Nat.mul W64 (encode ds))
def dot (raw : Nat → Nat) : List Nat → Nat → Nat
  | [], _ => 0
  | d :: ds, i => d * raw i + dot raw ds (i + 1)
theorem digits_length : ∀ (n m : Nat), (digits n m).length = n
  | 0, _ => rfl
  | n + 1, m => by simp [digits, digits_length n]
theorem digits_encode : ∀ (l : List Nat), (∀ d ∈ l, d < W64) → digits l.length (encode l) = l
  | [], _ => rfl
  | d :: ds, h => by
    have hd : d < W64 := h d List.mem_cons_self
    have h1 : Nat.mod (encode (d :: ds)) W64 = d := by
      show (d + W64 * encode ds) % W64 = d
      rw [Nat.add_mul_mod_self_left, Nat.mod_eq_of_lt hd]
    have h2 : Nat.div (encode (d :: ds)) W64 = encode ds := by
      show (d + W64 * encode ds) / W64 = encode ds
      rw [Nat.add_mul_div_left _ _ (by decide), Nat.div_eq_of_lt hd, Nat.zero_add]
    show Nat.mod (encode (d :: ds)) W64 :: digits ds.length (Nat.div (encode (d :: ds)) W64) = _
    rw [h1, h2, digits_encode ds fun x hx => h x (List.mem_cons_of_mem _ hx)]
def Pm : Nat := 2305843009213693951
def linVal (raw : Nat → Nat) (m : Nat) : Nat := dot raw (digits 9 m) 0 % Pm
def unitD : Nat → Nat → List Nat
  | 0, _ => []
  | n + 1, i => (if i = 0 then 1 else 0) :: unitD n (i - 1 + if i = 0 then n + 1 else 0)
theorem dot_zero (raw : Nat → Nat) : ∀ (l : List Nat) (j : Nat), (∀ d ∈ l, d = 0) → dot raw l j = 0
  | [], _, _ => rfl
  | d :: ds, j, h => by
    unfold dot
    rw [h d List.mem_cons_self, dot_zero raw ds (j + 1) fun x hx => h x (List.mem_cons_of_mem _ hx)]
    simp
theorem digits_zero : ∀ (n : Nat), ∀ d ∈ digits n 0, d = 0
  | 0, d, h => by cases h
  | n + 1, d, h => by
    have : digits (n + 1) 0 = 0 :: digits n 0 := rfl
    rw [this] at h
    rcases List.mem_cons.1 h with e | e
    · exact e
    · exact digits_zero n d e
theorem dot_unit (raw : Nat → Nat) : ∀ (n i j : Nat), i < n → dot raw (digits n (W64 ^ i)) j = raw (j + i)
  | 0, i, j, h => by omega
  | n + 1, 0, j, h => by
    have : digits (n + 1) (W64 ^ 0) = 1 :: digits n 0 := rfl
    rw [this]
    unfold dot
    rw [dot_zero raw _ _ (digits_zero n)]
    simp
  | n + 1, i + 1, j, h => by
    have h1 : Nat.mod (W64 ^ (i + 1)) W64 = 0 := by
      show W64 ^ (i + 1) % W64 = 0
      rw [Nat.pow_succ, Nat.mul_mod_left]
    have h2 : Nat.div (W64 ^ (i + 1)) W64 = W64 ^ i := by
      show W64 ^ (i + 1) / W64 = W64 ^ i
      rw [Nat.pow_succ, Nat.mul_div_cancel _ (by decide)]
    have : digits (n + 1) (W64 ^ (i + 1)) = 0 :: digits n (W64 ^ i) := by
      show Nat.mod (W64 ^ (i + 1)) W64 :: digits n (Nat.div (W64 ^ (i + 1)) W64) = _
      rw [h1, h2]
    rw [this]
    unfold dot
    rw [dot_unit raw n i (j + 1) (by omega), Nat.zero_mul, Nat.zero_add]
    congr 1; omega
theorem digits_big : ∀ (n i : Nat), n ≤ i → ∀ d ∈ digits n (W64 ^ i), d = 0
  | 0, i, _, d, h => by cases h
  | n + 1, 0, hn, d, h => by omega
  | n + 1, i + 1, hn, d, h => by
    have h1 : Nat.mod (W64 ^ (i + 1)) W64 = 0 := by
      show W64 ^ (i + 1) % W64 = 0
      rw [Nat.pow_succ, Nat.mul_mod_left]
    have h2 : Nat.div (W64 ^ (i + 1)) W64 = W64 ^ i := by
      show W64 ^ (i + 1) / W64 = W64 ^ i
      rw [Nat.pow_succ, Nat.mul_div_cancel _ (by decide)]
    have : digits (n + 1) (W64 ^ (i + 1)) = 0 :: digits n (W64 ^ i) := by
      show Nat.mod (W64 ^ (i + 1)) W64 :: digits n (Nat.div (W64 ^ (i + 1)) W64) = _
      rw [h1, h2]
    rw [this] at h
    rcases List.mem_cons.1 h with e | e
    · exact e
    · exact digits_big n i (by omega) d e
/-- What symbols stand for, of nine numbers. -/
def symVal (raw : Nat → Nat) (n : Nat) : Nat := if n % 2 = 0 then raw (n / 2) else linVal raw (n / 2)
abbrev symOf (raw : Nat → Nat) (h : ∀ i, raw i < 18446744073709551616) (h9 : ∀ i, 9 ≤ i → raw i = 0) : Sym where
  val := symVal raw
  oct := raw 8
  lt n := by
    unfold symVal
    split
    · exact h _
    · have : linVal raw (n / 2) < Pm := Nat.mod_lt _ (by decide)
      have : Pm = 2305843009213693951 := rfl
      omega
  odd n hn := by
    unfold symVal
    rw [if_neg (by omega)]
    exact Nat.mod_lt _ (by decide)
  rem n hn := by
    unfold symVal
    rw [if_neg (by omega), if_pos hn]
    have hp : (2 * 2 ^ (32 * n) + 1) / 2 = W64 ^ (n / 2) := by
      have : W64 = 2 ^ 64 := rfl
      rw [this, ← Nat.pow_mul]
      have : 64 * (n / 2) = 32 * n := by omega
      rw [this]
      omega
    rw [hp]
    unfold linVal
    have : Pm = 2305843009213693951 := rfl
    by_cases c : n / 2 < 9
    · rw [dot_unit raw 9 _ 0 c, this]
      simp
    · rw [dot_zero raw _ _ (digits_big 9 _ (by omega)), h9 _ (by omega)]
      rfl
/-- The linear form of a symbol. -/
def linOf (n : Nat) : List Nat := digits 9 (if n % 2 = 1 then n / 2 else 2 ^ (32 * n))
def addD : List Nat → List Nat → List Nat
  | x :: xs, y :: ys => Nat.mod (Nat.add x y) Pm :: addD xs ys
  | _, _ => []
def mulD (c : Nat) : List Nat → List Nat
  | [] => []
  | x :: xs => Nat.mod (Nat.mul x c) Pm :: mulD c xs
def symMk (l : List Nat) : Nat := Nat.succ (Nat.mul 2 (encode l))
theorem addD_length : ∀ (xs ys : List Nat), xs.length = ys.length → (addD xs ys).length = xs.length
  | [], [], _ => rfl
  | x :: xs, y :: ys, h => by simp [addD, addD_length xs ys (by simpa using h)]
theorem mulD_length (c : Nat) : ∀ (xs : List Nat), (mulD c xs).length = xs.length
  | [] => rfl
  | x :: xs => by simp [mulD, mulD_length c xs]
theorem addD_lt : ∀ (xs ys : List Nat), ∀ d ∈ addD xs ys, d < W64
  | [], _, d, h => by cases h
  | _ :: _, [], d, h => by cases h
  | x :: xs, y :: ys, d, h => by
    rcases List.mem_cons.1 h with e | e
    · subst e
      have : Nat.mod (Nat.add x y) Pm < Pm := Nat.mod_lt _ (by decide)
      exact Nat.lt_trans this (by decide)
    · exact addD_lt xs ys d e
theorem mulD_lt (c : Nat) : ∀ (xs : List Nat), ∀ d ∈ mulD c xs, d < W64
  | [], d, h => by cases h
  | x :: xs, d, h => by
    rcases List.mem_cons.1 h with e | e
    · subst e
      have : Nat.mod (Nat.mul x c) Pm < Pm := Nat.mod_lt _ (by decide)
      exact Nat.lt_trans this (by decide)
    · exact mulD_lt c xs d e
theorem dot_add (raw : Nat → Nat) : ∀ (xs ys : List Nat) (i : Nat), xs.length = ys.length → dot raw (addD xs ys) i % Pm = (dot raw xs i + dot raw ys i) % Pm
  | [], [], i, _ => rfl
  | x :: xs, y :: ys, i, h => by
    have ih := dot_add raw xs ys (i + 1) (by simpa using h)
    show ((x + y) % Pm * raw i + dot raw (addD xs ys) (i + 1)) % Pm = (x * raw i + dot raw xs (i + 1) + (y * raw i + dot raw ys (i + 1))) % Pm
    rw [Nat.add_mod, ih, Nat.mod_mul_mod, ← Nat.add_mod, Nat.add_mul]
    congr 1
    omega
theorem dot_mul (raw : Nat → Nat) (c : Nat) : ∀ (xs : List Nat) (i : Nat), dot raw (mulD c xs) i % Pm = (dot raw xs i * c) % Pm
  | [], i => by simp [dot, mulD]
  | x :: xs, i => by
    have ih := dot_mul raw c xs (i + 1)
    show (x * c % Pm * raw i + dot raw (mulD c xs) (i + 1)) % Pm = ((x * raw i + dot raw xs (i + 1)) * c) % Pm
    rw [Nat.add_mod, ih, Nat.mod_mul_mod, ← Nat.add_mod, Nat.add_mul]
    congr 2
    rw [Nat.mul_assoc, Nat.mul_comm c, ← Nat.mul_assoc]
theorem symVal_mk (raw : Nat → Nat) (l : List Nat) (hl : l.length = 9) (h : ∀ d ∈ l, d < W64) : symVal raw (symMk l) = dot raw l 0 % Pm := by
  have h1 : symMk l = 2 * encode l + 1 := rfl
  unfold symVal
  rw [if_neg (by omega), h1, show (2 * encode l + 1) / 2 = encode l by omega]
  unfold linVal
  have := digits_encode l h
  rw [hl] at this
  rw [this]
/-- A symbol, in the field, is its linear form. -/
theorem symVal_mod (raw : Nat → Nat) (h : ∀ i, raw i < 18446744073709551616) (h9 : ∀ i, 9 ≤ i → raw i = 0) (n : Nat) : symVal raw n % Pm = dot raw (linOf n) 0 % Pm := by
  unfold linOf
  by_cases c : n % 2 = 1
  · rw [if_pos c]
    unfold symVal
    rw [if_neg (by omega)]
    unfold linVal
    rw [Nat.mod_mod]
  · rw [if_neg c]
    have h1 := (symOf raw h h9).rem n (by omega)
    have h2 : symVal raw (2 * 2 ^ (32 * n) + 1) = symVal raw n % 2305843009213693951 := h1
    have h3 : Pm = 2305843009213693951 := rfl
    rw [h3, ← h2]
    unfold symVal
    rw [if_neg (by omega), show (2 * 2 ^ (32 * n) + 1) / 2 = 2 ^ (32 * n) by omega]
    rfl
end Go.FX
namespace Go.FX
open Go.Proofs

/-! ### The field, on the abstract heap -/

inductive Num where
  | c (n : Nat)
  | s (n : Nat)
  | none
def numOf : FV → Num
  | .i .u64 (.ofNat m) => .c m
  | .o (.chan (some n)) => .s n
  | _ => .none
noncomputable def retN (n : Nat) (h : Heap) (k : K) : R := forceN n fun n => k (.i .u64 (.ofNat n)) h
noncomputable def retS (n : Nat) (h : Heap) (k : K) : R := forceN n fun n => k (.o (.chan (some n))) h
noncomputable def redS (n : Nat) (h : Heap) (k : K) : R := bif Nat.beq (Nat.mod n 2) 1 then k (.o (.chan (some n))) h else retS (symMk (mulD 1 (linOf n))) h k
noncomputable def ofK : CF := ⟨fun _ vs h k => match vs with
  | [x] => (match numOf x with
    | .c m => retN (Nat.mod m Pm) h k
    | .s n => redS n h k
    | .none => none)
  | _ => none⟩
noncomputable def addK : CF := ⟨fun _ vs h k => match vs with
  | [x, y] => (match numOf x, numOf y with
    | .c m, .c n => retN (Nat.mod (Nat.add (Nat.mod m Pm) (Nat.mod n Pm)) Pm) h k
    | .c m, .s n => bif Nat.beq (Nat.mod m Pm) 0 then redS n h k else none
    | .s n, .c m => bif Nat.beq (Nat.mod m Pm) 0 then redS n h k else none
    | .s m, .s n => retS (symMk (addD (linOf m) (linOf n))) h k
    | _, _ => none)
  | _ => none⟩
noncomputable def mulK : CF := ⟨fun _ vs h k => match vs with
  | [x, y] => (match numOf x, numOf y with
    | .c m, .c n => retN (Nat.mod (Nat.mul (Nat.mod m Pm) (Nat.mod n Pm)) Pm) h k
    | .c m, .s n => retS (symMk (mulD m (linOf n))) h k
    | .s n, .c m => retS (symMk (mulD m (linOf n))) h k
    | _, _ => none)
  | _ => none⟩
theorem linOf_length (n : Nat) : (linOf n).length = 9 := digits_length 9 _
/-- A call that changes nothing. -/
theorem still {P : Program} {lo : Nat} {f : FuncId} {args : Array Value} {w : World} {k : K} {L : List (FV × Heap)} {ρ : Rho} {h : Heap} {v : FV} {v' : Value} [Sym] (hr : HR ρ h w) (hk : k v h = some L) (hv : FVR ρ v v')
    (hc : Calls P f args w fun e w' => e = .returned v' ∧ w' = w) : Calls P f args w fun e w' => ∃ v', e = .returned v' ∧ OpOut P lo k L ρ h w v' w' := by
  refine Calls.mono hc ?_
  rintro e w' ⟨rfl, rfl⟩
  exact ⟨v', rfl, v, ρ, h, L, hv, hr, .refl _ _ _ _, hk, fun _ h => h⟩
theorem fvs1 {ρ : Rho} [Sym] {a : FV} {args : Array Value} (h : All2 (FVR ρ) [a] args.toList) : ∃ x, args = #[x] ∧ FVR ρ a x := by
  obtain ⟨l⟩ := args
  cases h with
  | cons h1 h => cases h; exact ⟨_, rfl, h1⟩
theorem fvs2 {ρ : Rho} [Sym] {a b : FV} {args : Array Value} (h : All2 (FVR ρ) [a, b] args.toList) : ∃ x y, args = #[x, y] ∧ FVR ρ a x ∧ FVR ρ b y := by
  obtain ⟨l⟩ := args
  cases h with
  | cons h1 h => cases h with
    | cons h2 h => cases h; exact ⟨_, _, rfl, h1, h2⟩
section
variable (raw : Nat → Nat) (hraw : ∀ i, raw i < 18446744073709551616) (h9 : ∀ i, 9 ≤ i → raw i = 0)
/-- What a number or a symbol stands for. -/
def numV (raw : Nat → Nat) : Num → Nat
  | .c n => n
  | .s n => symVal raw n
  | .none => 0
include hraw h9
theorem numOf_real {ρ : Rho} {x : FV} {v' : Value} (hn : numOf x ≠ .none) (hv : @FVR (symOf raw hraw h9) ρ x v') : v' = .int .u64 (numV raw (numOf x) : Nat) := by
  letI := symOf raw hraw h9
  unfold numOf at *
  split at hn
  · exact hv.i_inv
  · exact hv.o_inv.sym_inv
  · exact absurd rfl hn
theorem sym_real {ρ : Rho} {n m : Nat} (h : symVal raw n = m) : @FVR (symOf raw hraw h9) ρ (.o (.chan (some n))) (.int .u64 (m : Nat)) := by
  letI := symOf raw hraw h9
  subst h
  exact VR.sym n
theorem red_real {n : Nat} : symVal raw (symMk (mulD 1 (linOf n))) = symVal raw n % Pm := by
  rw [symVal_mk raw _ (by rw [mulD_length, linOf_length]) (mulD_lt _ _), dot_mul, Nat.mul_one, symVal_mod raw hraw h9]
theorem odd_real {n : Nat} (h : n % 2 = 1) : symVal raw n % Pm = symVal raw n := Nat.mod_eq_of_lt ((symOf raw hraw h9).odd n h)
theorem redS_some {n : Nat} {h : Heap} {k : K} {L : List (FV × Heap)} (e : redS n h k = some L) : ∃ m, k (.o (.chan (some m))) h = some L ∧ symVal raw m = symVal raw n % Pm := by
  unfold redS at e
  cases hb : Nat.beq (Nat.mod n 2) 1 with
  | true =>
    rw [hb] at e
    exact ⟨n, e, (odd_real raw hraw h9 (Nat.eq_of_beq_eq_true hb)).symm⟩
  | false =>
    rw [hb] at e
    have e : retS (symMk (mulD 1 (linOf n))) h k = some L := e
    unfold retS at e
    rw [forceN_eq] at e
    exact ⟨_, e, red_real raw hraw h9⟩
theorem of_call (lo : Nat) (r : FR) : @CallS (symOf raw hraw h9) Tryz.prog lo (ofK.g r) 82 := by
  letI := symOf raw hraw h9
  intro vs h k L e ρ args w hg ha hr
  refine ⟨Tryz.call82 args w, ?_⟩
  unfold ofK at e
  dsimp only at e
  split at e
  · rename_i x
    obtain ⟨v, rfl, hv⟩ := fvs1 ha
    cases hx : numOf x with
    | none => rw [hx] at e; cases e
    | c m =>
      rw [hx] at e
      have := numOf_real raw hraw h9 (by rw [hx]; simp) hv
      rw [hx] at this
      subst this
      have e : retN (Nat.mod m Pm) h k = some L := e
      unfold retN at e
      rw [forceN_eq] at e
      exact still hr e (VR.int _ _) (c_of m w)
    | s n =>
      rw [hx] at e
      have := numOf_real raw hraw h9 (by rw [hx]; simp) hv
      rw [hx] at this
      subst this
      obtain ⟨m, e1, e2⟩ := redS_some raw hraw h9 e
      exact still hr e1 (sym_real raw hraw h9 e2) (c_of (symVal raw n) w)
  · cases e
theorem add_call (lo : Nat) (r : FR) : @CallS (symOf raw hraw h9) Tryz.prog lo (addK.g r) 49 := by
  letI := symOf raw hraw h9
  intro vs h k L e ρ args w hg ha hr
  refine ⟨Tryz.call49 args w, ?_⟩
  unfold addK at e
  dsimp only at e
  split at e
  · rename_i x y
    obtain ⟨u, v, rfl, hu, hv⟩ := fvs2 ha
    have key : numOf x ≠ .none → numOf y ≠ .none → u = .int .u64 (numV raw (numOf x) : Nat) ∧ v = .int .u64 (numV raw (numOf y) : Nat) := fun h1 h2 => ⟨numOf_real raw hraw h9 h1 hu, numOf_real raw hraw h9 h2 hv⟩
    cases hx : numOf x with
    | none => rw [hx] at e; cases hy : numOf y <;> rw [hy] at e <;> cases e
    | c m =>
      cases hy : numOf y with
      | none => rw [hx, hy] at e; cases e
      | c n =>
        rw [hx, hy] at e key
        obtain ⟨rfl, rfl⟩ := key (by simp) (by simp)
        have e : retN (Nat.mod (Nat.add (Nat.mod m Pm) (Nat.mod n Pm)) Pm) h k = some L := e
        unfold retN at e
        rw [forceN_eq] at e
        exact still hr e (VR.int _ _) (c_add m n w)
      | s n =>
        rw [hx, hy] at e key
        obtain ⟨rfl, rfl⟩ := key (by simp) (by simp)
        have e : (bif Nat.beq (Nat.mod m Pm) 0 then redS n h k else none) = some L := e
        cases hb : Nat.beq (Nat.mod m Pm) 0 with
        | false => rw [hb] at e; cases e
        | true =>
          rw [hb] at e
          obtain ⟨j, e1, e2⟩ := redS_some raw hraw h9 e
          have h0 : m % 2305843009213693951 = 0 := Nat.eq_of_beq_eq_true hb
          have hc := c_add m (symVal raw n) w
          rw [h0, Nat.zero_add, Nat.mod_mod] at hc
          exact still hr e1 (sym_real raw hraw h9 e2) hc
    | s m =>
      cases hy : numOf y with
      | none => rw [hx, hy] at e; cases e
      | c n =>
        rw [hx, hy] at e key
        obtain ⟨rfl, rfl⟩ := key (by simp) (by simp)
        have e : (bif Nat.beq (Nat.mod n Pm) 0 then redS m h k else none) = some L := e
        cases hb : Nat.beq (Nat.mod n Pm) 0 with
        | false => rw [hb] at e; cases e
        | true =>
          rw [hb] at e
          obtain ⟨j, e1, e2⟩ := redS_some raw hraw h9 e
          have h0 : n % 2305843009213693951 = 0 := Nat.eq_of_beq_eq_true hb
          have hc := c_add (symVal raw m) n w
          rw [h0, Nat.add_zero, Nat.mod_mod] at hc
          exact still hr e1 (sym_real raw hraw h9 e2) hc
      | s n =>
        rw [hx, hy] at e key
        obtain ⟨rfl, rfl⟩ := key (by simp) (by simp)
        have e : retS (symMk (addD (linOf m) (linOf n))) h k = some L := e
        unfold retS at e
        rw [forceN_eq] at e
        refine still hr e (sym_real raw hraw h9 (m := (symVal raw m % Pm + symVal raw n % Pm) % Pm) ?_) (c_add (symVal raw m) (symVal raw n) w)
        rw [symVal_mk raw _ (by rw [addD_length _ _ (by rw [linOf_length, linOf_length]), linOf_length]) (addD_lt _ _), dot_add raw _ _ _ (by rw [linOf_length, linOf_length]), symVal_mod raw hraw h9, symVal_mod raw hraw h9, ← Nat.add_mod]
  · cases e
theorem mul_call (lo : Nat) (r : FR) : @CallS (symOf raw hraw h9) Tryz.prog lo (mulK.g r) 50 := by
  letI := symOf raw hraw h9
  intro vs h k L e ρ args w hg ha hr
  refine ⟨Tryz.call50 args w, ?_⟩
  unfold mulK at e
  dsimp only at e
  split at e
  · rename_i x y
    obtain ⟨u, v, rfl, hu, hv⟩ := fvs2 ha
    have key : numOf x ≠ .none → numOf y ≠ .none → u = .int .u64 (numV raw (numOf x) : Nat) ∧ v = .int .u64 (numV raw (numOf y) : Nat) := fun h1 h2 => ⟨numOf_real raw hraw h9 h1 hu, numOf_real raw hraw h9 h2 hv⟩
    cases hx : numOf x with
    | none => rw [hx] at e; cases hy : numOf y <;> rw [hy] at e <;> cases e
    | c m =>
      cases hy : numOf y with
      | none => rw [hx, hy] at e; cases e
      | c n =>
        rw [hx, hy] at e key
        obtain ⟨rfl, rfl⟩ := key (by simp) (by simp)
        have e : retN (Nat.mod (Nat.mul (Nat.mod m Pm) (Nat.mod n Pm)) Pm) h k = some L := e
        unfold retN at e
        rw [forceN_eq] at e
        exact still hr e (VR.int _ _) (c_mul m n w)
      | s n =>
        rw [hx, hy] at e key
        obtain ⟨rfl, rfl⟩ := key (by simp) (by simp)
        have e : retS (symMk (mulD m (linOf n))) h k = some L := e
        unfold retS at e
        rw [forceN_eq] at e
        refine still hr e (sym_real raw hraw h9 (m := m % Pm * (symVal raw n % Pm) % Pm) ?_) (c_mul m (symVal raw n) w)
        rw [symVal_mk raw _ (by rw [mulD_length, linOf_length]) (mulD_lt _ _), dot_mul, symVal_mod raw hraw h9, ← Nat.mul_mod, Nat.mul_comm m]
    | s m =>
      cases hy : numOf y with
      | none => rw [hx, hy] at e; cases e
      | c n =>
        rw [hx, hy] at e key
        obtain ⟨rfl, rfl⟩ := key (by simp) (by simp)
        have e : retS (symMk (mulD n (linOf m))) h k = some L := e
        unfold retS at e
        rw [forceN_eq] at e
        refine still hr e (sym_real raw hraw h9 (m := symVal raw m % Pm * (n % Pm) % Pm) ?_) (c_mul (symVal raw m) n w)
        rw [symVal_mk raw _ (by rw [mulD_length, linOf_length]) (mulD_lt _ _), dot_mul, symVal_mod raw hraw h9, ← Nat.mul_mod]
      | s n => rw [hx, hy] at e; cases e
  · cases e
end
end Go.FX
namespace Go.FX
open Go.Proofs

/-! ### Calls reckoned ahead, with their heaps -/

noncomputable def heapFrom (l : List (Nat × Blk)) (t : T Blk) : T Blk := List.rec (motive := fun _ => T Blk → T Blk) (fun t => t) (fun x _ ih t => ih (T.set dH t x.1 (.leaf x.2))) l t
noncomputable def heapOf (l : List (Nat × Blk)) (nx : Nat) : Heap := ⟨heapFrom l .nil, nx⟩
/-- Some blocks more or anew, on what a heap had. -/
noncomputable def heapOn (h : Heap) (l : List (Nat × Blk)) (nx : Nat) : Heap := ⟨heapFrom l h.t, nx⟩
noncomputable def treeLe (t : T Blk) : T Blk → Bool :=
  T.rec (motive := fun _ => T Blk → Bool) (fun _ => true) (fun x u => match u with | .leaf y => blkEq x y | _ => false) (fun _ _ f g u => match u with | .node c d => f c && g d | _ => false) t
structure HEnt where
  f : FuncId
  vs : List FV
  hin : Heap
  v : FV
  hout : Heap
noncomputable def chunkB (E : Env) (q : Known) (e : HEnt) : Bool := match (run E q 200).call e.f e.vs e.hin out1 with
  | some l => l.all fun x => fvEq e.v x.1 && Nat.beq e.hout.nx x.2.nx && treeLe e.hout.t x.2.t
  | none => false
noncomputable def memoGo (d : R) (vs : List FV) (h : Heap) (k : K) (l : List HEnt) : R :=
  List.rec d (fun e _ ih => bif Nat.beq e.hin.nx h.nx && fvsEq e.vs vs && treeLe e.hin.t h.t then k e.v e.hout else ih) l
/-- The calls of one function, looked up; else it is run. -/
noncomputable def memoK (E : Env) (f : FuncId) (l : List HEnt) : CF := ⟨fun r vs h k => memoGo (CF.go (compF E f) r vs h k) vs h k l⟩
theorem heapFrom_wf : ∀ (l : List (Nat × Blk)) (t : T Blk), T.wf dH t → T.wf dH (heapFrom l t)
  | [], t, h => h
  | x :: l, t, h => heapFrom_wf l _ (T.wf_set (fun d e => by subst e; trivial) dH t x.1 h)
theorem heapOf_wf (l : List (Nat × Blk)) (nx : Nat) : T.wf dH (heapOf l nx).t := heapFrom_wf l .nil (show T.wf dH (.nil : T Blk) from trivial)
theorem heapOn_wf {h : Heap} (hw : T.wf dH h.t) (l : List (Nat × Blk)) (nx : Nat) : T.wf dH (heapOn h l nx).t := heapFrom_wf l h.t hw
variable [Sym]
theorem treeLe_get : ∀ (t u : T Blk), treeLe t u = true → ∀ k, T.get t k = T.get u k ∨ T.get t k = none
  | .nil, _, _, _ => .inr rfl
  | .leaf x, u, h, k => by
    cases u with
    | leaf y => left; rw [blkEq_eq (a := x) (b := y) h]
    | nil => cases h
    | node c d => cases h
  | .node a b, u, h, k => by
    cases u with
    | leaf y => cases h
    | nil => cases h
    | node c d =>
      have h : (treeLe a c && treeLe b d) = true := h
      obtain ⟨h1, h2⟩ := and_true' h
      rw [T.get_node, T.get_node]
      split
      · exact treeLe_get a c h1 _
      · exact treeLe_get b d h2 _
/-- What a reckoned call says. -/
structure EntOk (P : Program) (lo : Nat) (e : HEnt) : Prop where
  win : T.wf dH e.hin.t
  wout : T.wf dH e.hout.t
  call : ∀ ρ (args : Array Value) w, GR ρ → All2 (FVR ρ) e.vs args.toList → HR ρ e.hin w →
    (callFunc e.f args).run P w = .ok (.enter e.f args) w ∧ Calls P e.f args w fun e' w' => ∃ v', e' = .returned v' ∧ ∃ ρ', FVR ρ' e.v v' ∧ HR ρ' e.hout w' ∧ Ext lo ρ e.hin w ρ' e.hout w'
theorem chunk_ok {P : Program} {E : Env} (ok : EnvOk P E) (qs : EqsOk P E) (hname : ∀ f fn, T.get E.ft f = some fn → fn.name ≠ "runtime.NumGoroutine") {q : Known} (hq : KnownOk P E.lo q) {e : HEnt} (w1 : T.wf dH e.hin.t) (w2 : T.wf dH e.hout.t) (hc : chunkB E q e = true) : EntOk P E.lo e where
  win := w1
  wout := w2
  call ρ args w hg ha hr := by
    unfold chunkB at hc
    split at hc
    · rename_i L hL
      obtain ⟨c1, c2⟩ := (run_ok ok qs hname hq 200).call e.f e.vs e.hin out1 L hL ρ args w hg ha hr
      refine ⟨c1, Calls.mono c2 ?_⟩
      rintro e4 w' ⟨v', rfl, v, ρ', h', L', q1, q2, q3, q4, q5⟩
      cases q4
      have hm := List.all_eq_true.1 hc _ (q5 _ (List.mem_singleton.2 rfl))
      obtain ⟨m1, m2⟩ := and_true' hm
      obtain ⟨m3, m4⟩ := and_true' m1
      have hv := (fvEq_eq m3).1
      dsimp only at hv
      obtain ⟨ρ2, p1, p2⟩ := HR.prune (lo := E.lo) (h2 := e.hout) q2 ⟨fun _ => w2, Nat.eq_of_beq_eq_true m4, fun _ k => treeLe_get _ _ m2 k⟩
      exact ⟨v', rfl, ρ2, by rw [hv]; exact q1.later p2.later, p1, q3.trans p2⟩
    · cases hc
theorem memo_call {P : Program} {E : Env} (ok : EnvOk P E) (qs : EqsOk P E) (hname : ∀ f fn, T.get E.ft f = some fn → fn.name ≠ "runtime.NumGoroutine") {f : FuncId} {l : List HEnt} (hl : ∀ e ∈ l, e.f = f ∧ EntOk P E.lo e) (r : FR) (fr : FRok P E.lo r) : CallS P E.lo ((memoK E f l).g r) f := by
  intro vs h k L e ρ args w hg ha hr
  have e' : memoGo (CF.go (compF E f) r vs h k) vs h k l = some L := e
  clear e
  induction l with
  | nil => exact func_sound ok qs hname fr (k := k) (L := L) e' hg ha hr
  | cons en es ih =>
    have e2 : (bif Nat.beq en.hin.nx h.nx && fvsEq en.vs vs && treeLe en.hin.t h.t then k en.v en.hout else memoGo (CF.go (compF E f) r vs h k) vs h k es) = some L := e'
    cases hb : (Nat.beq en.hin.nx h.nx && fvsEq en.vs vs && treeLe en.hin.t h.t) with
    | false =>
      rw [hb] at e2
      exact ih (fun e he => hl e (List.mem_cons_of_mem _ he)) e2
    | true =>
      rw [hb, cond_true] at e2
      obtain ⟨b1, b2⟩ := and_true' hb
      obtain ⟨b3, b4⟩ := and_true' b1
      obtain ⟨hf, ho⟩ := hl en List.mem_cons_self
      have hvs := fvsEq_eq b4
      subst hvs hf
      obtain ⟨ρ2, p1, p2⟩ := HR.prune (lo := E.lo) (h2 := en.hin) hr ⟨fun _ => ho.win, Nat.eq_of_beq_eq_true b3, fun _ k => treeLe_get _ _ b2 k⟩
      have ha2 : All2 (FVR ρ2) en.vs args.toList := ha.imp fun _ _ h => h.later p2.later
      obtain ⟨c1, c2⟩ := ho.call ρ2 args w (hg.later p2.later) ha2 p1
      refine ⟨c1, Calls.mono c2 ?_⟩
      rintro e4 w' ⟨v', rfl, ρ', q1, q2, q3⟩
      exact ⟨v', rfl, en.v, ρ', en.hout, L, q1, q2, p2.trans q3, e2, fun _ h => h⟩
end Go.FX
namespace Go.FX.Lt
def I (n : Nat) : Value := .int .i64 (.ofNat n)
def IN (n : Nat) : Value := .int .i64 (.negSucc n)
def U (n : Nat) : Value := .int .u64 (.ofNat n)
def B (n : Nat) : Value := .int .u8 (.ofNat n)
def W (n : Nat) : Value := .int .u32 (.ofNat n)
def vt : Value := .bool true
def vf : Value := .bool false
def st (l : List Nat) : Value := .string ⟨⟨l.map fun n => UInt8.ofNat n⟩⟩
def p0 : Value := .pointer none
def p (b o : Nat) : Value := .pointer (some ⟨b, o, none⟩)
def s0 : Value := .slice none 0 0
def s (b o n c : Nat) : Value := .slice (some ⟨b, o, none⟩) n c
def m0 : Value := .map none
def m (r : Nat) : Value := .map (some r)
def f0 : Value := .nilFunc
def i0 : Value := .nilIface
def fn (f : Nat) (xs ys : List Value) : Value := .func (.func f) ⟨xs⟩ ⟨ys⟩
def ifc (t : Nat) (v : Value) : Value := .iface t v
def ag (l : List Value) : Value := .agg ⟨l⟩
def tu (l : List Value) : Value := .tuple ⟨l⟩
def C (l : List Value) (e z : Nat) : Blk := .cells l e z false
def L (l : List Value) (e z : Nat) : Blk := .cells l e z true
def M (l : List Entry) (c : Nat) : Blk := .map l c
def en (k v : Value) (b : Nat) : Entry := ⟨k, v, b⟩
def fI (n : Nat) : FV := .i .i64 (.ofNat n)
def fU (n : Nat) : FV := .i .u64 (.ofNat n)
def fB (n : Nat) : FV := .i .u8 (.ofNat n)
def fW (n : Nat) : FV := .i .u32 (.ofNat n)
def shaE (a b v : List Nat) : PEnt := ⟨245, [.o (.agg ⟨ints .u32 a⟩), .o (.agg ⟨ints .u8 b⟩)], .o (.agg ⟨ints .u32 v⟩)⟩
def powE (a n v : Nat) : PEnt := ⟨157, [.i .u64 (.ofNat a), .i .u64 (.ofNat n)], .i .u64 (.ofNat v)⟩
end Go.FX.Lt
