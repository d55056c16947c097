/- TopAny answers true whatever it is given, and what was there stays, where the table of sha lies as the row says. -/
import Derived.Test.YtphfoenmfkibdaaGreatDoorK9
import Derived.Test.YtphfoenmfkibdaaGreatDoorK9s4
import Derived.Test.YtphfoenmfkibdaaGreatDoorK9s5
import Derived.Test.YtphfoenmfkibdaaGreatDoorK9s6
import Derived.Below
set_option linter.unusedSectionVars false
set_option linter.unusedVariables false
set_option linter.unusedSimpArgs false
set_option maxRecDepth 1000000
namespace Go.FX
open Go.Proofs Lt Go.RowKit

/-! ### TopAny, called -/
section
variable (raw : Nat → Nat) (hraw : ∀ i, raw i < 18446744073709551616) (h9 : ∀ i, 9 ≤ i → raw i = 0)
theorem q8_ok : @KnownOk (symOf raw hraw h9) Tryz.prog 9 q8 := by
  letI := symOf raw hraw h9
  intro f c hc r fr
  unfold q8 at hc
  dsimp only at hc
  cases h1 : Nat.beq f 157 with
  | true =>
    rw [h1, cond_true] at hc; cases hc
    cases Nat.eq_of_beq_eq_true h1
    exact pure_call (E := E0) env_ok eqs_ok names_ok rfl invL_all r
  | false =>
  cases h2 : Nat.beq f 82 with
  | true =>
    rw [h1, h2, cond_false, cond_true] at hc; cases hc
    cases Nat.eq_of_beq_eq_true h2
    exact of_call raw hraw h9 9 r
  | false =>
  cases h3 : Nat.beq f 49 with
  | true =>
    rw [h1, h2, h3, cond_false, cond_false, cond_true] at hc; cases hc
    cases Nat.eq_of_beq_eq_true h3
    exact add_call raw hraw h9 9 r
  | false =>
  cases h4 : Nat.beq f 50 with
  | true =>
    rw [h1, h2, h3, h4, cond_false, cond_false, cond_false, cond_true] at hc; cases hc
    cases Nat.eq_of_beq_eq_true h4
    exact mul_call raw hraw h9 9 r
  | false =>
  cases h5 : Nat.beq f 10 with
  | true =>
    rw [h1, h2, h3, h4, h5, cond_false, cond_false, cond_false, cond_false, cond_true] at hc; cases hc
    cases Nat.eq_of_beq_eq_true h5
    exact sure_call raw hraw h9 r
  | false => rw [h1, h2, h3, h4, h5, cond_false, cond_false, cond_false, cond_false, cond_false] at hc; cases hc
theorem top_law (hoct : raw 8 < 256) {c : Nat} (hc : raw 8 % 3 = c) {s : FV} {h : Heap} (hb : topB c s h = true) {ρ : Rho} {args : Array Value} {w : World} (hg : GR ρ) (ha : All2 (@FVR (symOf raw hraw h9) ρ) [secT, s, .o (.chan none)] args.toList) (hr : @HR (symOf raw hraw h9) ρ h w) (hf : ∀ k, 9 ≤ k → ρ k = .fresh) :
    Calls Tryz.prog 7 args w fun e w' => e = .returned (.bool true) ∧ Below w.heap.size w w' := by
  letI := symOf raw hraw h9
  unfold topB at hb
  split at hb
  · rename_i l hl
    have hs : ∀ fn b, T.get E0.ft 7 = some fn → fn.body = some b → CodeS Tryz.prog E0 (run E0 q8 200) fn.ntmps true (skipC 121 c) (spine 5 b) := by
      intro fn b h1 h2
      have h3 := (env_ok).ft _ _ h1
      rw [Tryz.func7] at h3
      cases h3
      rw [Tryz.ntmps7]
      have h4 : spine 5 b = reg7 := by unfold reg7; rw [h2]
      rw [h4]
      exact skip_code (run_ok env_ok eqs_ok names_ok (q8_ok raw hraw h9) 200) hoct hc
    refine Calls.mono (funcP_sound env_ok eqs_ok names_ok (run_ok env_ok eqs_ok names_ok (q8_ok raw hraw h9) 200) hs hl hg ha hr).2 ?_
    rintro e w' ⟨v', rfl, v, ρ', h', L', q1, q2, q3, q4, q5⟩
    cases q4
    have hm := List.all_eq_true.1 hb _ (q5 _ (List.mem_singleton.2 rfl))
    have hv := (fvEq_eq hm).1
    dsimp only at hv
    subst hv
    have q1' : VR ρ' (.bool true) v' := q1
    cases q1'
    exact ⟨rfl, q3.os, q3.tape, q3.output, q3.size, fun k hk => q3.keep k hk fun j s i hj e => by rw [hf j hj] at e; cases e⟩
  · cases hb
end

/-! ### The world at the start -/

def rho8 (n : Nat) (i0 : Info) (p8 : Option (Nat × Nat × Info)) : Rho := fun k =>
  if k = 0 then .at 0 0 i0 else if k = 8 then (match p8 with | some (b, s, i) => .at b s i | none => .dead) else if k < 9 then .dead else .fresh
theorem rho8_GR (n : Nat) (i0 : Info) (p8 : Option (Nat × Nat × Info)) : GR (rho8 n i0 p8) := fun g hg => by
  have hg : g < 4 := hg
  by_cases c : g = 0
  · subst c; exact .inr ⟨i0, rfl⟩
  · left
    unfold rho8
    rw [if_neg c, if_neg (by omega), if_pos (by omega)]
theorem rho8_fresh (n : Nat) (i0 : Info) (p8 : Option (Nat × Nat × Info)) : ∀ k, 9 ≤ k → rho8 n i0 p8 k = .fresh := fun k hk => by
  unfold rho8
  rw [if_neg (by omega), if_neg (by omega), if_neg (by omega)]
section
variable [Sym]
theorem hT_get (n k : Nat) : (hT n).get k = if k = 8 then some (.cells (syms n 0) 27 1000 false) else if k = 0 then some roundsB else none := by
  have e : (hT n).get k = T.get (T.set dH (T.set dH .nil 0 (.leaf roundsB)) 8 (.leaf (.cells (syms n 0) 27 1000 false))) k := by kernel_rfl
  rw [e]
  rw [T.get_set (.leaf _) (leaf_none _) dH _ 8 k (T.wf_set (fun d e => by subst e; trivial) dH .nil 0 (show T.wf dH (.nil : T Blk) from trivial)) (by decide), leaf_some]
  by_cases c : k = 8
  · rw [if_pos c, if_pos c]
  · rw [if_neg c, if_neg c]
    have := hR_get k
    exact this
end
theorem syms_length : ∀ n i, (syms n i).length = n
  | 0, _ => rfl
  | n + 1, i => by simp [syms, syms_length n]
theorem syms_get : ∀ (n i j : Nat), j < n → (syms n i)[j]? = some (.chan (some (2 * (i + j))))
  | 0, _, _, h => by omega
  | n + 1, i, 0, _ => rfl
  | n + 1, i, j + 1, h => by
    have := syms_get n (i + 1) j (by omega)
    simp only [syms, List.getElem?_cons_succ]
    rw [this]
    congr 3
    omega
def kRV : List Value := ints .u32 kR
/-- What the row says of sha's table. -/
def RoundsAt (w : World) : Prop := ∃ ct f, w.heap[0]? = some (.cells kRV.toArray ct f)
theorem cell_block {w : World} {b j : Nat} {v : Value} (h : w.cell? ⟨b, j, none⟩ = some v) : ∃ c ct f, w.heap[b]? = some (.cells c ct f) ∧ c[j]? = some v := by
  unfold World.cell? at h
  split at h
  · rename_i c ct f hb
    exact ⟨c, ct, f, hb, by simpa using h⟩
  · cases h
theorem kRV_int : ∀ (j : Nat) (v : Value), kRV[j]? = some v → ∃ n : Int, v = .int .u32 n := by
  have : ∀ (l : List Nat) (j : Nat) (v : Value), (ints .u32 l)[j]? = some v → ∃ n : Int, v = .int .u32 n := by
    intro l
    induction l with
    | nil => intro j v h; cases h
    | cons n r ih =>
      intro j v h
      cases j with
      | zero => simp [ints] at h; exact ⟨_, h.symm⟩
      | succ j => exact ih j v (by simpa [ints] using h)
  exact this _
section
variable [Sym]
theorem rounds_block {w : World} (hw : RoundsAt w) : ∃ c ct f, c = kRV.toArray ∧ w.heap[0]? = some (.cells c ct f) ∧ ∀ ρ, BR ρ 0 ⟨false, 1000, 64, c.size⟩ roundsB (.cells c ct f) := by
  obtain ⟨ct, f, h1⟩ := hw
  refine ⟨_, ct, f, rfl, h1, fun ρ => ?_⟩
  have hlen : kRV.length = 64 := rfl
  obtain ⟨lo, hi⟩ := f
  refine ⟨_, ct, lo, hi, rfl, rfl, by have : (ints .u32 kR).length = 64 := rfl; have : kRV.toArray.size = 64 := rfl; omega, ⟨fun h => ?_, fun _ h => absurd rfl h⟩, fun j v hj => ⟨v, by rw [Nat.zero_add, List.getElem?_toArray]; exact hj, ?_⟩⟩
  · rcases h with h | h
    · cases h
    · exact absurd rfl h
  · obtain ⟨n, rfl⟩ := kRV_int j v hj
    exact .int _ _
theorem HR_R {w : World} {c : Array Value} {ct : TypeId} {f : Nat × Nat} (h0 : w.heap[0]? = some (.cells c ct f)) (hB : ∀ ρ, BR ρ 0 ⟨false, 1000, 64, c.size⟩ roundsB (.cells c ct f)) : HR (rho8 0 ⟨false, 1000, 64, c.size⟩ none) hR w := by
  have zn : ∀ k b s j, rho8 0 ⟨false, 1000, 64, c.size⟩ none k = .at b s j → k = 0 := fun k b s j e => by
    unfold rho8 at e
    split at e
    · assumption
    · split at e
      · cases e
      · split at e <;> cases e
  refine ⟨hR_wf, fun k => ?_, fun k k' b s i s' i' e e' => by rw [zn _ _ _ _ e, zn _ _ _ _ e'], fun k hk => rho8_fresh _ _ _ k hk, fun k hk => by rw [hR_get, if_neg (by have : 9 ≤ k := hk; omega)]⟩
  by_cases c0 : k = 0
  · subst c0
    exact ⟨roundsB, _, by rw [hR_get, if_pos rfl], h0, hB _⟩
  · cases hk : rho8 0 ⟨false, 1000, 64, c.size⟩ none k with
    | fresh => trivial
    | dead => show hR.get k = none; rw [hR_get, if_neg c0]
    | «at» b s i => exact absurd (zn _ _ _ _ hk) c0
theorem HR_T {w : World} {c : Array Value} {ct : TypeId} {f : Nat × Nat} (h0 : w.heap[0]? = some (.cells c ct f)) (hB : ∀ ρ, BR ρ 0 ⟨false, 1000, 64, c.size⟩ roundsB (.cells c ct f))
    {n b s : Nat} {o : Obj} {i : Info} (hb : w.heap[b]? = some o) (hbn : b ≠ 0) (hB8 : ∀ ρ, BR ρ s i (.cells (syms n 0) 27 1000 false) o) : HR (rho8 n ⟨false, 1000, 64, c.size⟩ (some (b, s, i))) (hT n) w := by
  have zn : ∀ k b' s' j, rho8 n ⟨false, 1000, 64, c.size⟩ (some (b, s, i)) k = .at b' s' j → (k = 0 ∧ b' = 0) ∨ (k = 8 ∧ b' = b) := fun k b' s' j e => by
    unfold rho8 at e
    split at e
    · cases e; exact .inl ⟨by assumption, rfl⟩
    · split at e
      · cases e; exact .inr ⟨by assumption, rfl⟩
      · split at e <;> cases e
  refine ⟨heapOf_wf _ _, fun k => ?_, fun k k' b1 s1 i1 s2 i2 e e' => ?_, fun k hk => rho8_fresh _ _ _ k hk, fun k hk => by rw [hT_get, if_neg (by have : 9 ≤ k := hk; omega), if_neg (by have : 9 ≤ k := hk; omega)]⟩
  · by_cases c0 : k = 0
    · subst c0
      exact ⟨roundsB, _, by rw [hT_get, if_neg (by decide), if_pos rfl], h0, hB _⟩
    · by_cases c8 : k = 8
      · subst c8
        exact ⟨_, _, by rw [hT_get, if_pos rfl], hb, hB8 _⟩
      · cases hk : rho8 n ⟨false, 1000, 64, c.size⟩ (some (b, s, i)) k with
        | fresh => trivial
        | dead => show (hT n).get k = none; rw [hT_get, if_neg c8, if_neg c0]
        | «at» b' s' i' =>
          rcases zn _ _ _ _ hk with h | h
          · exact absurd h.1 c0
          · exact absurd h.1 c8
  · rcases zn _ _ _ _ e with h | h <;> rcases zn _ _ _ _ e' with h' | h'
    · rw [h.1, h'.1]
    · exact absurd (h'.2.symm.trans h.2) hbn
    · exact absurd (h.2.symm.trans h'.2) hbn
    · rw [h.1, h'.1]
end

/-! ### All calls of TopAny -/

def rawOf (zs : List Nat) (s0 s1 k : Nat) (i : Nat) : Nat := if i = 6 then s0 else if i = 7 then s1 else if i = 8 then k else if i < 6 then zs.getD i 0 else 0
section
variable (zs : List Nat) (s0 s1 k : Nat) (hz : ∀ z ∈ zs, z < 18446744073709551616) (h0 : s0 < 18446744073709551616) (h1 : s1 < 18446744073709551616) (hk : k < 256)
include hz h0 h1 hk in
theorem rawOf_lt (i : Nat) : rawOf zs s0 s1 k i < 18446744073709551616 := by
  unfold rawOf
  split
  · exact h0
  · split
    · exact h1
    · split
      · omega
      · split
        · by_cases c : i < zs.length
          · have : zs.getD i 0 = zs[i] := by simp [List.getD, c]
            rw [this]
            exact hz _ (List.getElem_mem _)
          · have : zs.getD i 0 = 0 := by simp [List.getD, c]
            rw [this]; decide
        · decide
theorem rawOf_9 (i : Nat) (h : 9 ≤ i) : rawOf zs s0 s1 k i = 0 := by
  unfold rawOf
  rw [if_neg (by omega), if_neg (by omega), if_neg (by omega), if_neg (by omega)]
abbrev symA : Sym := symOf (rawOf zs s0 s1 k) (rawOf_lt zs s0 s1 k hz h0 h1 hk) (rawOf_9 zs s0 s1 k)
theorem args_ok {ρ : Rho} {s : FV} {v : Value} (hs : @FVR (symA zs s0 s1 k hz h0 h1 hk) ρ s v) : All2 (@FVR (symA zs s0 s1 k hz h0 h1 hk) ρ) [secT, s, .o (.chan none)] [.agg #[.int .u64 (s0 : Nat), .int .u64 (s1 : Nat)], v, .int .u8 (k : Nat)] := by
  letI := symA zs s0 s1 k hz h0 h1 hk
  have e0 : (Sym.val 12 : Nat) = s0 := rfl
  have e1 : (Sym.val 14 : Nat) = s1 := rfl
  have e2 : (Sym.oct : Nat) = k := rfl
  refine .cons ?_ (.cons hs (.cons ?_ .nil))
  · exact VR.agg (.cons (VR.sym 12) (.cons (VR.sym 14) .nil))
  · exact VR.oct
/-- No number of chance, or more than six. -/
theorem top_far {s : FV} {v : Value} {W : World} (hW : RoundsAt W) (hb : topB 0 s hR = true) (hn : ∀ c, topB c s hR = topB 0 s hR)
    (hs : ∀ i0, @FVR (symA zs s0 s1 k hz h0 h1 hk) (rho8 0 i0 none) s v) :
    Calls Tryz.prog 7 #[.agg #[.int .u64 (s0 : Nat), .int .u64 (s1 : Nat)], v, .int .u8 (k : Nat)] W fun e w' => e = .returned (.bool true) ∧ Below W.heap.size W w' := by
  letI := symA zs s0 s1 k hz h0 h1 hk
  obtain ⟨c, ct, f, _, hb0, hB⟩ := rounds_block hW
  exact top_law (rawOf zs s0 s1 k) (rawOf_lt zs s0 s1 k hz h0 h1 hk) (rawOf_9 zs s0 s1 k) hk rfl ((hn _).trans hb) (rho8_GR _ _ _) (args_ok zs s0 s1 k hz h0 h1 hk (hs _)) (HR_R hb0 hB) (rho8_fresh _ _ _)
include hz h0 h1 hk in
/-- Up to six. -/
theorem top_near {n b off cap : Nat} {W : World} (hW : RoundsAt W) (hn : zs.length = n) (h6 : n ≤ 6) (hn0 : 0 < n) (hcap : n ≤ cap) (hb : ∀ c, c < 3 → topB c (.s 8 0 n cap) (hT n) = true)
    (hcell : ∀ i, i < n → W.cell? ⟨b, off + i, none⟩ = some (.int .u64 (zs.getD i 0 : Nat))) :
    Calls Tryz.prog 7 #[.agg #[.int .u64 (s0 : Nat), .int .u64 (s1 : Nat)], .slice (some ⟨b, off, none⟩) n cap, .int .u8 (k : Nat)] W fun e w' => e = .returned (.bool true) ∧ Below W.heap.size W w' := by
  letI := symA zs s0 s1 k hz h0 h1 hk
  obtain ⟨c, ct, f, hc, hb0, hB⟩ := rounds_block hW
  obtain ⟨c8, ct8, f8, hb8, hg0⟩ := cell_block (hcell 0 hn0)
  have hget : ∀ i, i < n → c8[off + i]? = some (.int .u64 (zs.getD i 0 : Nat)) := fun i hi => by
    obtain ⟨c', ct', f', h3, h4⟩ := cell_block (hcell i hi)
    rw [hb8] at h3; cases h3
    exact h4
  have hbn : b ≠ 0 := fun e => by
    subst e
    rw [hb0] at hb8; cases hb8
    rw [hc, List.getElem?_toArray] at hg0
    obtain ⟨m, hm⟩ := kRV_int _ _ hg0
    cases hm
  obtain ⟨lo, hi⟩ := f8
  have hB8 : ∀ ρ, BR ρ off ⟨false, 1000, n, c8.size⟩ (.cells (syms n 0) 27 1000 false) (.cells c8 ct8 (lo, hi)) := fun ρ => by
    refine ⟨c8, ct8, lo, hi, rfl, by rw [syms_length], ?_, ⟨fun h => ?_, fun _ h => absurd rfl h⟩, fun j v hj => ?_⟩
    · rw [syms_length]
      have := (Array.getElem?_eq_some_iff.1 (hget (n - 1) (by omega))).1
      omega
    · rcases h with h | h
      · cases h
      · exact absurd rfl h
    · have hjn : j < n := by
        have := (List.getElem?_eq_some_iff.1 hj).1
        rw [syms_length] at this
        exact this
      rw [syms_get n 0 j hjn] at hj
      cases hj
      refine ⟨_, hget j hjn, ?_⟩
      have e1 : (Sym.val (2 * (0 + j)) : Nat) = zs.getD j 0 := by
        show symVal _ _ = _
        unfold symVal
        rw [if_pos (by omega), show 2 * (0 + j) / 2 = j by omega]
        unfold rawOf
        rw [if_neg (by omega), if_neg (by omega), if_neg (by omega), if_pos (by omega)]
      rw [← e1]
      exact VR.sym _
  refine top_law (rawOf zs s0 s1 k) (rawOf_lt zs s0 s1 k hz h0 h1 hk) (rawOf_9 zs s0 s1 k) hk rfl (hb _ (Nat.mod_lt _ (by decide))) (rho8_GR n ⟨false, 1000, 64, c.size⟩ (some (b, off, ⟨false, 1000, n, c8.size⟩))) (args_ok zs s0 s1 k hz h0 h1 hk ?_) (HR_T hb0 hB hb8 hbn hB8) (rho8_fresh _ _ _)
  refine VR.slice ⟨hcap, Nat.le_refl _, ?_, .inr ?_⟩
  · show rho8 _ _ _ 8 ≠ .fresh
    unfold rho8; simp
  · simp [rho8]
end
theorem three {p : Nat → Prop} (h0 : p 0) (h1 : p 1) (h2 : p 2) : ∀ c, c < 3 → p c := fun c hc => by
  match c, hc with
  | 0, _ => exact h0
  | 1, _ => exact h1
  | 2, _ => exact h2
/-- TopAny, whatever it is given: true; and what was there stays. -/
theorem topAny_call (s0 s1 k : Nat) (h0 : s0 < 18446744073709551616) (h1 : s1 < 18446744073709551616) (hk : k < 256) (W : World) (hW : RoundsAt W) (v : Value)
    (hv : v = .slice none 0 0 ∨ ∃ b off n cap, ∃ zs : List Nat, v = .slice (some ⟨b, off, none⟩) n cap ∧ n ≤ cap ∧ zs.length = n ∧ (∀ z ∈ zs, z < 18446744073709551616) ∧ ∀ i, i < n → W.cell? ⟨b, off + i, none⟩ = some (.int .u64 (zs.getD i 0 : Nat))) :
    Calls Tryz.prog 7 #[.agg #[.int .u64 (s0 : Nat), .int .u64 (s1 : Nat)], v, .int .u8 (k : Nat)] W fun e w' => e = .returned (.bool true) ∧ Below W.heap.size W w' := by
  rcases hv with rfl | ⟨b, off, n, cap, zs, rfl, hcap, hn, hz, hcell⟩
  · exact top_far [] s0 s1 k (by simp) h0 h1 hk hW top_nil (fun c => by rw [top_nil]; exact top_nil' c) fun i0 => @VR.sliceNil (symA [] s0 s1 k (by simp) h0 h1 hk) _
  · have far : ∀ (hb : topB 0 (.s 8 0 n cap) hR = true) (hn : ∀ c, topB c (.s 8 0 n cap) hR = topB 0 (.s 8 0 n cap) hR), Calls Tryz.prog 7 #[.agg #[.int .u64 (s0 : Nat), .int .u64 (s1 : Nat)], .slice (some ⟨b, off, none⟩) n cap, .int .u8 (k : Nat)] W fun e w' => e = .returned (.bool true) ∧ Below W.heap.size W w' :=
      fun hb hn => top_far [] s0 s1 k (by simp) h0 h1 hk hW hb hn fun i0 => by
        letI := symA [] s0 s1 k (by simp) h0 h1 hk
        refine VR.slice ⟨hcap, Nat.le_refl _, ?_, .inr ?_⟩
        · show rho8 _ _ _ 8 ≠ .fresh
          unfold rho8; simp
        · simp [rho8]
    have near : 0 < n → n ≤ 6 → (∀ c, c < 3 → topB c (.s 8 0 n cap) (hT n) = true) → _ := fun hn0 h6 hb => top_near zs s0 s1 k hz h0 h1 hk hW hn h6 hn0 hcap hb hcell
    match n, hn, far, near with
    | 0, _, far, _ => exact far (top_0 0 cap) fun c => by rw [top_0 c cap, top_0 0 cap]
    | 1, _, _, near => exact near (by decide) (by decide) (three (top_1_0 cap) (top_1_1 cap) (top_1_2 cap))
    | 2, _, _, near => exact near (by decide) (by decide) (three (top_2_0 cap) (top_2_1 cap) (top_2_2 cap))
    | 3, _, _, near => exact near (by decide) (by decide) (three (top_3_0 cap) (top_3_1 cap) (top_3_2 cap))
    | 4, _, _, near => exact near (by decide) (by decide) (three (top_4_0 cap) (top_4_1 cap) (top_4_2 cap))
    | 5, _, _, near => exact near (by decide) (by decide) (three (top_5_0 cap) (top_5_1 cap) (top_5_2 cap))
    | 6, _, _, near => exact near (by decide) (by decide) (three (top_6_0 cap) (top_6_1 cap) (top_6_2 cap))
    | m + 7, _, far, _ => exact far (top_big 0 m cap) fun c => by rw [top_big c m cap, top_big 0 m cap]
end Go.FX
