/- Regions that draw their order, on the quick machine, sound in every order. -/
import Derived.Test.YtphfoenmfkibdaaGreatDoorME
set_option linter.unusedSectionVars false
set_option linter.unusedVariables false
set_option linter.unusedSimpArgs false
set_option maxRecDepth 1000000
namespace Go.FX
variable [Sym]

/-! ### Numbers as sets -/

theorem bit_eq (m i : Nat) : bit m i = m.testBit i := by
  unfold bit
  have h1 : Nat.land (Nat.shiftRight m i) 1 = (m >>> i) % 2 := Nat.and_one_is_mod _
  rw [h1, Nat.testBit_eq_decide_div_mod_eq, Nat.shiftRight_eq_div_pow]
  rcases Nat.mod_two_eq_zero_or_one (m / 2 ^ i) with h | h <;> rw [h] <;> rfl
theorem bit_zero (i : Nat) : bit 0 i = false := by rw [bit_eq]; simp
theorem bit_or_pow (m i j : Nat) : bit (Nat.lor m (Nat.pow 2 i)) j = (bit m j || Nat.beq i j) := by
  rw [bit_eq, bit_eq]
  have : Nat.lor m (Nat.pow 2 i) = m ||| 2 ^ i := rfl
  rw [this, Nat.testBit_or, Nat.testBit_two_pow]
  congr 1
  by_cases h : i = j
  · subst h; simp
  · have hb : Nat.beq i j = false := by
      cases hb : Nat.beq i j with
      | false => rfl
      | true => exact absurd (Nat.eq_of_beq_eq_true hb) h
    rw [hb]; simpa using h
theorem bit_or (m n j : Nat) : bit (Nat.lor m n) j = (bit m j || bit n j) := by
  rw [bit_eq, bit_eq, bit_eq]
  have : Nat.lor m n = m ||| n := rfl
  rw [this, Nat.testBit_or]
theorem waits_false {m d : Nat} (h : waits m d = false) (j : Nat) (hj : bit m j = true) : bit d j = true := by
  unfold waits at h
  have h0 : Nat.beq (Nat.land m (Nat.xor m (Nat.land m d))) 0 = true := by
    cases hb : Nat.beq (Nat.land m (Nat.xor m (Nat.land m d))) 0 with
    | true => rfl
    | false => rw [hb] at h; cases h
  have h1 : m &&& (m ^^^ (m &&& d)) = 0 := Nat.eq_of_beq_eq_true h0
  have h2 : (m &&& (m ^^^ (m &&& d))).testBit j = false := by rw [h1]; simp
  rw [bit_eq] at hj ⊢
  rw [Nat.testBit_and, Nat.testBit_xor, Nat.testBit_and, hj] at h2
  cases hd : d.testBit j with
  | true => rfl
  | false => rw [hd] at h2; cases h2

/-! ### What is ahead of what -/

theorem natAt_eq : ∀ (l : List Nat) (n : Nat), natAt l n = l.getD n 0
  | [], n => by simp [natAt]
  | x :: xs, 0 => rfl
  | x :: xs, n + 1 => by
    show natAt xs n = _
    rw [natAt_eq xs n]; rfl
def ahOf (o : Oper) (acc : List Nat) : Nat := o.after.toList.foldl (fun s e => bif Region.binds .any e then Nat.lor (Nat.lor s (Nat.pow 2 e.on)) (acc.getD e.on 0) else s) 0
theorem aheads_cons (o : Oper) (os : List Oper) (acc : List Nat) : aheads (o :: os) acc = aheads os (acc ++ [ahOf o acc]) := rfl
theorem aheads_ext : ∀ (os : List Oper) (acc : List Nat), ∃ ext, aheads os acc = acc ++ ext ∧ ext.length = os.length ∧ ∀ k o, os[k]? = some o → ext[k]? = some (ahOf o (acc ++ ext.take k))
  | [], acc => ⟨[], by simp [aheads], rfl, fun k o h => by simp at h⟩
  | o :: os, acc => by
    obtain ⟨ext, h1, h2, h3⟩ := aheads_ext os (acc ++ [ahOf o acc])
    refine ⟨ahOf o acc :: ext, by rw [aheads_cons, h1]; simp, by simp [h2], fun k p hk => ?_⟩
    cases k with
    | zero => simp at hk; subst hk; simp
    | succ k =>
      simp at hk
      have := h3 k p hk
      simpa using this
theorem foldl_bit (acc : List Nat) : ∀ {α : Type} (es : List α) (f : α → Bool) (on : α → Nat) (s j : Nat), bit (es.foldl (fun s e => bif f e then Nat.lor (Nat.lor s (Nat.pow 2 (on e))) (acc.getD (on e) 0) else s) s) j = true ↔
    bit s j = true ∨ ∃ e ∈ es, f e = true ∧ (on e = j ∨ bit (acc.getD (on e) 0) j = true)
  | _, [], f, on, s, j => by simp
  | _, e :: es, f, on, s, j => by
    rw [List.foldl_cons, foldl_bit acc es f on]
    cases hf : f e with
    | false => simp [hf]
    | true =>
      rw [cond_true, bit_or, bit_or_pow]
      simp only [Bool.or_eq_true, List.mem_cons, exists_eq_or_imp, hf, true_and]
      have : Nat.beq (on e) j = true ↔ on e = j := ⟨Nat.eq_of_beq_eq_true, fun h => by subst h; exact Nat.beq_refl _⟩
      rw [this]
      constructor
      · rintro (((h | h) | h) | h)
        · exact .inl h
        · exact .inr (.inl (.inl h))
        · exact .inr (.inl (.inr h))
        · exact .inr (.inr h)
      · rintro (h | (h | h) | h)
        · exact .inl (.inl (.inl h))
        · exact .inl (.inl (.inr h))
        · exact .inl (.inr h)
        · exact .inr h
/-- Who is ahead of one: whom it waits for, and who is ahead of them. -/
theorem ahead_iff {l : List Oper} {i : Nat} {o : Oper} (hi : l[i]? = some o) (j : Nat) : bit (natAt (aheads l []) i) j = true ↔
    ∃ e ∈ o.after.toList, Region.binds .any e = true ∧ (e.on = j ∨ (e.on < i ∧ bit (natAt (aheads l []) e.on) j = true)) := by
  obtain ⟨ext, h1, h2, h3⟩ := aheads_ext l []
  rw [List.nil_append] at h1
  have h4 := h3 i o hi
  rw [List.nil_append] at h4
  have h5 : natAt (aheads l []) i = ahOf o (ext.take i) := by rw [natAt_eq, h1, List.getD_eq_getElem?_getD, h4]; rfl
  rw [h5]
  unfold ahOf
  rw [foldl_bit, bit_zero]
  have hg : ∀ m, bit ((ext.take i).getD m 0) j = true ↔ (m < i ∧ bit (natAt (aheads l []) m) j = true) := fun m => by
    rw [natAt_eq, h1, List.getD_eq_getElem?_getD, List.getD_eq_getElem?_getD, List.getElem?_take]
    by_cases c : m < i
    · rw [if_pos c]; simp [c]
    · rw [if_neg c]; simp [c, bit_zero]
  simp only [Bool.false_eq_true, false_or, hg]
/-- A set that holds whom its members wait for holds who is ahead of them. -/
theorem ahead_in {l : List Oper} {S : Nat → Prop} (hS : ∀ i o, l[i]? = some o → S i → ∀ e ∈ o.after.toList, Region.binds .any e = true → S e.on) :
    ∀ (i : Nat) (o : Oper), l[i]? = some o → (∀ e ∈ o.after.toList, Region.binds .any e = true → S e.on) → ∀ j, bit (natAt (aheads l []) i) j = true → S j := by
  intro i
  induction i using Nat.strongRecOn with
  | _ i ih =>
    intro o hi hd j hj
    obtain ⟨e, he, hb, h | ⟨hlt, h⟩⟩ := (ahead_iff hi j).1 hj
    · rw [← h]; exact hd e he hb
    · have hlen : i < l.length := (List.getElem?_eq_some_iff.1 hi).1
      have hlt' : e.on < l.length := by omega
      exact ih e.on hlt _ (List.getElem?_eq_getElem hlt') (hS e.on _ (List.getElem?_eq_getElem hlt') (hd e he hb)) j h

/-! ### The order in which it is run -/

theorem firstReady_some {E : Env} {eff : Bool} {ah : List Nat} {done : Nat} : ∀ (os : List Oper) (i : Nat) {x : Nat × Oper}, firstReady E eff ah done os i = some x →
    ∃ k, x.1 = i + k ∧ os[k]? = some x.2 ∧ bit done x.1 = false ∧ waits (natAt ah x.1) done = false
  | [], i, x, h => by cases h
  | o :: os, i, x, h => by
    unfold firstReady at h
    cases hc : (bit done i || waits (natAt ah i) done || (Nat.beq (kindOf E o.op) 3 != eff)) with
    | true =>
      rw [hc, cond_true] at h
      obtain ⟨k, h1, h2, h3, h4⟩ := firstReady_some os _ h
      exact ⟨k + 1, by rw [h1]; omega, by simpa using h2, h3, h4⟩
    | false =>
      rw [hc, cond_false] at h
      cases h
      simp only [Bool.or_eq_false_iff] at hc
      exact ⟨0, rfl, rfl, hc.1.1, hc.1.2⟩
structure OrdF (E : Env) (l : List Oper) (ord : List (Nat × Oper)) : Prop where
  at' : ∀ x ∈ ord, l[x.1]? = some x.2
  nodup : (ord.map (·.1)).Nodup
  ahead : ∀ pre x post, ord = pre ++ x :: post → ∀ j, bit (natAt (aheads l []) x.1) j = true → j ∈ pre.map (·.1)
  all : ∀ i o, l[i]? = some o → (i, o) ∈ ord
  dst : ∀ x ∈ ord, ∀ d, x.2.dst = some d → ∀ y ∈ ord, y.1 ≠ x.1 → y.2.dst ≠ some d ∧ (bit (natAt (aheads l []) y.1) x.1 = true ∨ bit (natAt (aheads l []) x.1) y.1 = true ∨ looksAt l y.2 d = false)
  eff : ∀ pre x post, ord = pre ++ x :: post → kindOf E x.2.op = 3 → ∀ y ∈ post, bit (natAt (aheads l []) y.1) x.1 = true
theorem asap_ok {E : Env} {ah : List Nat} {l : List Oper} : ∀ (n done : Nat), (∀ x ∈ asap E ah l n done, l[x.1]? = some x.2 ∧ bit done x.1 = false) ∧ ((asap E ah l n done).map (·.1)).Nodup ∧
    ∀ pre x post, asap E ah l n done = pre ++ x :: post → ∀ j, bit (natAt ah x.1) j = true → bit done j = true ∨ j ∈ pre.map (·.1)
  | 0, done => ⟨fun x hx => (by cases hx), List.nodup_nil, fun pre x post h => (by simp [asap] at h)⟩
  | n + 1, done => by
    have key : ∀ x, (∃ k, x.1 = 0 + k ∧ l[k]? = some x.2 ∧ bit done x.1 = false ∧ waits (natAt ah x.1) done = false) → asap E ah l (n + 1) done = x :: asap E ah l n (Nat.lor done (Nat.pow 2 x.1)) →
        (∀ x ∈ asap E ah l (n + 1) done, l[x.1]? = some x.2 ∧ bit done x.1 = false) ∧ ((asap E ah l (n + 1) done).map (·.1)).Nodup ∧
        ∀ pre x post, asap E ah l (n + 1) done = pre ++ x :: post → ∀ j, bit (natAt ah x.1) j = true → bit done j = true ∨ j ∈ pre.map (·.1) := by
      rintro x ⟨k, h1, h2, h3, h4⟩ he
      obtain ⟨g1, g2, g3⟩ := asap_ok (E := E) (ah := ah) (l := l) n (Nat.lor done (Nat.pow 2 x.1))
      rw [he]
      refine ⟨fun y hy => ?_, ?_, fun pre y post hp j hj => ?_⟩
      · cases hy with
        | head => exact ⟨by rw [h1, Nat.zero_add]; exact h2, h3⟩
        | tail _ hy =>
          obtain ⟨q1, q2⟩ := g1 y hy
          rw [bit_or_pow, Bool.or_eq_false_iff] at q2
          exact ⟨q1, q2.1⟩
      · rw [List.map_cons, List.nodup_cons]
        refine ⟨fun hm => ?_, g2⟩
        obtain ⟨y, hy, e⟩ := List.mem_map.1 hm
        have := (g1 y hy).2
        rw [bit_or_pow, e, Nat.beq_refl, Bool.or_true] at this
        cases this
      · cases pre with
        | nil =>
          simp at hp
          obtain ⟨hp, _⟩ := hp
          subst hp
          exact .inl (waits_false h4 j hj)
        | cons z pre =>
          simp at hp
          obtain ⟨hz, hp⟩ := hp
          rcases g3 pre y post hp j hj with h | h
          · rw [bit_or_pow, Bool.or_eq_true] at h
            rcases h with h | h
            · exact .inl h
            · right
              rw [List.map_cons, ← hz, Nat.eq_of_beq_eq_true h]
              exact List.mem_cons_self
          · right; rw [List.map_cons]; exact List.mem_cons_of_mem _ h
    cases hf : firstReady E false ah done l 0 with
    | some x => exact key x (firstReady_some l 0 hf) (by simp only [asap, hf])
    | none =>
      cases hg : firstReady E true ah done l 0 with
      | some x => exact key x (firstReady_some l 0 hg) (by simp only [asap, hf, hg])
      | none =>
        have : asap E ah l (n + 1) done = [] := by simp only [asap, hf, hg]
        rw [this]
        exact ⟨fun x hx => (by cases hx), List.nodup_nil, fun pre x post h => (by simp at h)⟩
theorem nodup_le : ∀ (n : Nat) (s : List Nat), s.Nodup → (∀ i ∈ s, i < n) → s.length ≤ n
  | 0, [], _, _ => Nat.le_refl _
  | 0, x :: s, _, h => absurd (h x List.mem_cons_self) (Nat.not_lt_zero _)
  | n + 1, s, hn, h => by
    have h1 := nodup_le n (s.erase n) (hn.erase _) (fun i hi => by
      rw [hn.mem_erase_iff] at hi
      have := h i hi.2
      omega)
    have h2 := List.length_erase (a := n) (l := s)
    split at h2
    · omega
    · omega
theorem full_of_nodup {n : Nat} {s : List Nat} (h : s.Nodup) (hl : s.length = n) (hb : ∀ i ∈ s, i < n) : ∀ i, i < n → i ∈ s := by
  intro i hi
  by_cases c : i ∈ s
  · exact c
  · have := nodup_le n (i :: s) (List.nodup_cons.2 ⟨c, h⟩) (fun j hj => by
      rcases List.mem_cons.1 hj with e | e
      · rw [e]; exact hi
      · exact hb j e)
    simp at this
    omega
theorem effs_ok {E : Env} {ah : List Nat} : ∀ {ord : List (Nat × Oper)}, effsOk E ah ord = true → ∀ pre x post, ord = pre ++ x :: post → kindOf E x.2.op = 3 → ∀ y ∈ post, bit (natAt ah y.1) x.1 = true
  | [], h, pre, x, post, e, _, y, hy => by simp at e
  | z :: zs, h, pre, x, post, e, hk, y, hy => by
    unfold effsOk at h
    obtain ⟨h1, h2⟩ := and_true' h
    cases pre with
    | nil =>
      simp at e
      obtain ⟨e1, e2⟩ := e
      subst e1 e2
      have hb : Nat.beq (kindOf E z.2.op) 3 = true := by rw [hk]; rfl
      rw [hb, cond_true, List.all_eq_true] at h1
      exact h1 y hy
    | cons p pre =>
      simp at e
      exact effs_ok h2 pre x post e.2 hk y hy
theorem ord_ok {E : Env} {l : List Oper} (hl : (asap E (aheads l []) l l.length 0).length = l.length) (hd : dstsOk (aheads l []) l (asap E (aheads l []) l l.length 0) = true) (he : effsOk E (aheads l []) (asap E (aheads l []) l l.length 0) = true) :
    OrdF E l (asap E (aheads l []) l l.length 0) := by
  obtain ⟨g1, g2, g3⟩ := asap_ok (E := E) (ah := aheads l []) (l := l) l.length 0
  generalize hord : asap E (aheads l []) l l.length 0 = ord at *
  have hall := full_of_nodup g2 (by simpa using hl) (fun i hi => by
    obtain ⟨x, hx, e⟩ := List.mem_map.1 hi
    rw [← e]
    exact (List.getElem?_eq_some_iff.1 (g1 x hx).1).1)
  refine ⟨fun x hx => (g1 x hx).1, g2, fun pre x post h j hj => ?_, fun i o hi => ?_, fun x hx d hdx y hy hne => ?_, effs_ok he⟩
  · rcases g3 pre x post h j hj with h | h
    · rw [bit_zero] at h; cases h
    · exact h
  · obtain ⟨x, hx, e⟩ := List.mem_map.1 (hall i (List.getElem?_eq_some_iff.1 hi).1)
    have := (g1 x hx).1
    rw [e, hi] at this
    cases this
    cases x
    dsimp only at e
    subst e
    exact hx
  · unfold dstsOk at hd
    have h1 := List.all_eq_true.1 hd x hx
    rw [hdx] at h1
    dsimp only at h1
    have h2 := List.all_eq_true.1 h1 y hy
    rw [Bool.or_eq_true] at h2
    rcases h2 with h2 | h2
    · exact absurd (Nat.eq_of_beq_eq_true h2).symm hne
    · obtain ⟨h3, h4⟩ := and_true' h2
      refine ⟨fun c => ?_, ?_⟩
      · unfold writes at h3
        rw [c] at h3
        simp at h3
      · simp only [Bool.or_eq_true, Bool.not_eq_true'] at h4
        rcases h4 with (h4 | h4) | h4
        · exact .inl h4
        · exact .inr (.inl h4)
        · exact .inr (.inr h4)
end Go.FX
namespace Go.FX
variable [Sym]

/-! ### Temporaries made of a function -/

theorem mk_at {α : Type} (f : Nat → α) (i : Nat) (hi : i < 7) : N.at (⟨f 0, f 1, f 2, f 3, f 4, f 5, f 6⟩ : N α) i = f i := by
  unfold N.at
  rcases i with _ | _ | _ | _ | _ | _ | _ | i <;> first | rfl | omega
theorem mkTm (f : Nat → FV) : ∃ tm : Tm, ∀ t, t < tmMost → Tm.at tm t = f t := by
  let g2 : Nat → Nat → N FV := fun a b => ⟨f (a * 49 + b * 7 + 0), f (a * 49 + b * 7 + 1), f (a * 49 + b * 7 + 2), f (a * 49 + b * 7 + 3), f (a * 49 + b * 7 + 4), f (a * 49 + b * 7 + 5), f (a * 49 + b * 7 + 6)⟩
  let g1 : Nat → N (N FV) := fun a => ⟨g2 a 0, g2 a 1, g2 a 2, g2 a 3, g2 a 4, g2 a 5, g2 a 6⟩
  refine ⟨⟨g1 0, g1 1, g1 2, g1 3, g1 4, g1 5, g1 6⟩, fun t ht => ?_⟩
  have ht' : t < 343 := ht
  unfold Tm.at
  rw [mk_at g1 (t / 49) (by omega)]
  show N.at (N.at (⟨g2 (t / 49) 0, g2 (t / 49) 1, g2 (t / 49) 2, g2 (t / 49) 3, g2 (t / 49) 4, g2 (t / 49) 5, g2 (t / 49) 6⟩ : N (N FV)) (t / 7 % 7)) (t % 7) = f t
  rw [mk_at (g2 (t / 49)) (t / 7 % 7) (by omega)]
  have := mk_at (fun c => f (t / 49 * 49 + t / 7 % 7 * 7 + c)) (t % 7) (by omega)
  show N.at (⟨f (t / 49 * 49 + t / 7 % 7 * 7 + 0), f (t / 49 * 49 + t / 7 % 7 * 7 + 1), f (t / 49 * 49 + t / 7 % 7 * 7 + 2), f (t / 49 * 49 + t / 7 % 7 * 7 + 3), f (t / 49 * 49 + t / 7 % 7 * 7 + 4), f (t / 49 * 49 + t / 7 % 7 * 7 + 5), f (t / 49 * 49 + t / 7 % 7 * 7 + 6)⟩ : N FV) (t % 7) = f t
  rw [this]
  congr 1
  omega

/-! ### What an operation looks at -/

/-- What a guard says. -/
def gbv (l : List Oper) (o : Oper) (tm : Tm) : Option Bool :=
  match o.guard with
  | none => some true
  | some (j, want) => (match l[j]? with
    | some g => (match g.dst with
      | some d => (match ev tm (.tmp d) with
        | .u => none
        | .b t => some (t == want)
        | .o (.bool t) => some (t == want)
        | _ => some false)
      | none => none)
    | none => none)
theorem guard_f (l : List Oper) (o : Oper) (tm : Tm) (c : Bool → R) : (guardOf l o).f tm c = match gbv l o tm with | some b => c b | none => none := by
  unfold guardOf gbv
  cases o.guard with
  | none => rfl
  | some jw =>
    obtain ⟨j, want⟩ := jw
    dsimp only
    cases l[j]? with
    | none => rfl
    | some g =>
      dsimp only
      cases g.dst with
      | none => rfl
      | some d =>
        dsimp only
        show (FV.rec (fun _ _ => c false) (fun b => c (b == want)) (fun _ _ => c false) (fun _ _ _ _ => c false) (fun v => match v with | .bool b => c (b == want) | _ => c false) none ((opd (.tmp d)).f tm) : R) = _
        rw [opd_f]
        cases ev tm (.tmp d) with
        | o v => cases v <;> rfl
        | _ => rfl
theorem gbv_sound {ops : Array Oper} {o : Oper} {tm : Tm} {b : Bool} (h : gbv ops.toList o tm = some b) {ρ : Rho} {a : Act} (ht : TR ρ tm a.tmps) : Region.wanted o (yielded ops a.tmps) = b := by
  let c : Bool → R := fun b => some (if b then [] else [(.u, ⟨.nil, 0⟩)])
  have h1 : (guardOf ops.toList o).f tm c = some (if b then [] else [(.u, ⟨.nil, 0⟩)]) := by rw [guard_f, h]
  obtain ⟨b', h2, h3⟩ := guard_sound h1
  rw [h3 ρ a ht]
  cases b <;> cases b' <;> first | rfl | (simp [c] at h2)
def Agree (l : List Oper) (o : Oper) (tm tm' : Tm) : Prop := ∀ t, t < tmMost → looksAt l o t = true → Tm.at tm t = Tm.at tm' t
theorem Agree.symm {l : List Oper} {o : Oper} {tm tm' : Tm} (h : Agree l o tm tm') : Agree l o tm' tm := fun t ht hl => (h t ht hl).symm
theorem Agree.ev {l : List Oper} {o : Oper} {tm tm' : Tm} (h : Agree l o tm tm') : ∀ x ∈ o.op.operands, ev tm x = ev tm' x := by
  intro x hx
  cases x with
  | tmp t =>
    show (if t < tmMost then Tm.at tm t else .u) = (if t < tmMost then Tm.at tm' t else .u)
    split
    · rename_i ht
      refine h t ht ?_
      unfold looksAt
      rw [Bool.or_eq_true]
      left
      rw [List.any_eq_true]
      exact ⟨.tmp t, by simpa using hx, Nat.beq_refl t⟩
    · rfl
  | _ => rfl
theorem Agree.gbv {l : List Oper} {o : Oper} {tm tm' : Tm} (h : Agree l o tm tm') : gbv l o tm = gbv l o tm' := by
  unfold FX.gbv
  cases hg : o.guard with
  | none => rfl
  | some jw =>
    obtain ⟨j, want⟩ := jw
    dsimp only
    cases hj : l[j]? with
    | none => rfl
    | some g =>
      dsimp only
      cases hd : g.dst with
      | none => rfl
      | some d =>
        dsimp only
        have : FX.ev tm (.tmp d) = FX.ev tm' (.tmp d) := by
          show (if d < tmMost then Tm.at tm d else .u) = (if d < tmMost then Tm.at tm' d else .u)
          split
          · rename_i ht
            refine h d ht ?_
            unfold looksAt
            rw [Bool.or_eq_true]
            right
            rw [hg]
            dsimp only
            rw [hj]
            dsimp only
            rw [hd]
            exact Nat.beq_refl d
          · rfl
        rw [this]
theorem Agree.comp {E : Env} {l : List Oper} {o : Oper} {tm tm' : Tm} (h : Agree l o tm tm') (r : FR) (hp : Heap) (k : K) : (compOp E o.op).g r tm hp k = (compOp E o.op).g r tm' hp k := comp_agree h.ev
/-- Only what an operation looks at. -/
theorem lookTm (l : List Oper) (o : Oper) (tm : Tm) : ∃ tmx, Agree l o tm tmx ∧ ∀ t, t < tmMost → looksAt l o t = false → Tm.at tmx t = .u := by
  obtain ⟨tmx, h⟩ := mkTm fun t => if looksAt l o t = true then Tm.at tm t else .u
  exact ⟨tmx, fun t ht hl => by rw [h t ht, if_pos hl], fun t ht hl => by rw [h t ht, if_neg (by rw [hl]; simp)]⟩

/-! ### Blocks that are made ahead, or late -/

/-- The abstract heap has a block more, the world not yet. -/
theorem HR.early {ρ : Rho} {h : Heap} {w : World} (hr : HR ρ h w) (hn : h.nx < 2 ^ dH) (B : Blk) : HR ρ (h.made B) w := by
  have hf : ρ h.nx = .fresh := hr.nx _ (Nat.le_refl _)
  refine ⟨Heap.made_wf hr.wf B, fun k => ?_, hr.inj, fun k hk => hr.nx k (by have : h.nx + 1 ≤ k := hk; omega), fun k hk => ?_⟩
  · have := hr.blk k
    cases hk : ρ k with
    | fresh => trivial
    | dead =>
      simp only [hk] at this
      simp only [Heap.get_made hr.wf hn, if_neg (fun e : k = h.nx => by rw [e, hf] at hk; cases hk), this]
    | «at» b s i =>
      simp only [hk] at this
      obtain ⟨B1, o1, f1, f2, f3⟩ := this
      exact ⟨B1, o1, by rw [Heap.get_made hr.wf hn, if_neg (fun e : k = h.nx => by rw [e, hf] at hk; cases hk)]; exact f1, f2, f3⟩
  · have hk' : h.nx + 1 ≤ k := hk
    rw [Heap.get_made hr.wf hn, if_neg (by omega)]
    exact hr.top k (by omega)
theorem sub_made {ρ : Rho} {h : Heap} {w : World} (hr : HR ρ h w) (hn : h.nx < 2 ^ dH) (B : Blk) : Sub h (h.made B) := fun k B' e => by
  have hk : k ≠ h.nx := fun c => by
    have := hr.top k (by omega)
    rw [this] at e; cases e
  rw [Heap.get_made hr.wf hn, if_neg hk]
  exact e
theorem Ext.early {lo : Nat} {ρ0 ρ : Rho} {h0 h : Heap} {w0 w : World} (hx : Ext lo ρ0 h0 w0 ρ h w) (hr : HR ρ h w) (hn : h.nx < 2 ^ dH) (B : Blk) : Ext lo ρ0 h0 w0 ρ (h.made B) w where
  later := hx.later
  fresh k hk e := by
    obtain ⟨e1, e2⟩ := hx.fresh k hk e
    have := hx.nx
    exact ⟨e1, by rw [Heap.get_made hr.wf hn, if_neg (by omega)]; exact e2⟩
  new := hx.new
  nx := Nat.le_succ_of_le hx.nx
  size := hx.size
  keep := hx.keep
  os := hx.os
  tape := hx.tape
  output := hx.output
theorem HR.lt {ρ : Rho} {h : Heap} {w : World} (hr : HR ρ h w) {k b s : Nat} {i : Info} (e : ρ k = .at b s i) : b < w.heap.size := by
  obtain ⟨_, _, _, g, _⟩ := hr.at e
  exact lt_of_get g
/-- The block that was made ahead is made in the world, too. -/
theorem HR.late {lo : Nat} {ρ0 ρ : Rho} {h0 h : Heap} {w0 w w' : World} (hx : Ext lo ρ0 h0 w0 ρ h w) (hr : HR ρ h w) {m : Nat} {B : Blk} {ob : Obj} {i : Info} (hm0 : h0.nx ≤ m) (hm : m < h.nx) (hf : ρ m = .fresh) (hB : h.get m = some B ∨ h.get m = none)
    (hw : w'.heap = w.heap.push ob) (ho : w'.os = w.os) (ht : w'.tape = w.tape) (hou : w'.output = w.output) (hb : ∀ ρ', Later ρ ρ' → BR ρ' 0 i B ob) :
    ∃ s, HR (upd ρ m s) h w' ∧ Ext lo ρ0 h0 w0 (upd ρ m s) h w' ∧ ∀ v v', (∀ ρ', ρ' m = .at w.heap.size 0 i → Later ρ ρ' → FVR ρ' v v') → FVR (upd ρ m s) v v' := by
  have hlt := fun {j b s i} (e : ρ j = .at b s i) => hr.lt e
  have old : ∀ s, s ≠ .fresh → (match s with | .fresh => False | .dead => h.get m = none | .at b s i => b = w.heap.size ∧ ∃ o, h.get m = some B ∧ w'.heap[b]? = some o ∧ BR (upd ρ m (.at b s i)) s i B o) → HR (upd ρ m s) h w' ∧ Ext lo ρ0 h0 w0 (upd ρ m s) h w' := by
    intro s hs hcase
    have hl : Later ρ (upd ρ m s) := later_fresh hf
    refine ⟨⟨hr.wf, fun j => ?_, fun j j' b s1 i1 s1' i1' e e' => ?_, fun j hj => ?_, hr.top⟩, ⟨hx.later.trans hl, fun j hj e => ?_, fun j b s1 i1 hj e => ?_, hx.nx, by rw [hw]; simp; have := hx.size; omega, fun b hb' g => ?_, ho.trans hx.os, ht.trans hx.tape, hou.trans hx.output⟩⟩
    · by_cases e : j = m
      · subst e
        rw [upd_at]
        cases s with
        | fresh => exact absurd rfl hs
        | dead => exact hcase
        | «at» b s1 i1 =>
          obtain ⟨_, o, g1, g2, g3⟩ := hcase
          exact ⟨B, o, g1, g2, g3⟩
      · rw [upd_ne e]
        have := hr.blk j
        cases hj : ρ j with
        | fresh => trivial
        | dead => simp only [hj] at this; exact this
        | «at» b s1 i1 =>
          simp only [hj] at this
          obtain ⟨B1, o1, f1, f2, f3⟩ := this
          refine ⟨B1, o1, f1, ?_, f3.later hl⟩
          rw [hw, Array.getElem?_push, if_neg (by have := hlt hj; omega)]
          exact f2
    · have notm : ∀ {j b s1 i1}, upd ρ m s j = .at b s1 i1 → (j = m ∧ b = w.heap.size) ∨ (j ≠ m ∧ ρ j = .at b s1 i1) := fun {j b s1 i1} e => by
        by_cases c : j = m
        · subst c
          rw [upd_at] at e; subst e
          exact .inl ⟨rfl, hcase.1⟩
        · rw [upd_ne c] at e; exact .inr ⟨c, e⟩
      rcases notm e with ⟨c1, c2⟩ | ⟨c1, c2⟩ <;> rcases notm e' with ⟨d1, d2⟩ | ⟨d1, d2⟩
      · rw [c1, d1]
      · have := hlt d2; omega
      · have := hlt c2; omega
      · exact hr.inj _ _ _ _ _ _ _ c2 d2
    · rw [upd_ne (by omega)]; exact hr.nx j hj
    · obtain ⟨e1, e2⟩ := hx.fresh j hj e
      exact ⟨by rw [upd_ne (by omega)]; exact e1, e2⟩
    · by_cases c : j = m
      · subst c
        rw [upd_at] at e; subst e
        left
        rw [hcase.1]; exact hx.size
      · rw [upd_ne c] at e; exact hx.new j b s1 i1 hj e
    · rw [hw, Array.getElem?_push, if_neg (by have := hx.size; omega)]
      exact hx.keep b hb' g
  have h1 := hr.blk m
  rcases hB with hB | hB
  · have hl : Later ρ (upd ρ m (.at w.heap.size 0 i)) := later_fresh hf
    obtain ⟨g1, g2⟩ := old (.at w.heap.size 0 i) (by simp) ⟨rfl, ob, hB, by rw [hw]; simp, hb _ hl⟩
    exact ⟨_, g1, g2, fun v v' hv => hv _ (upd_at _ _ _) hl⟩
  · obtain ⟨g1, g2⟩ := old .dead (by simp) hB
    refine ⟨_, g1, g2, fun v v' hv => ?_⟩
    have := hv (upd ρ m (.at w.heap.size 0 i)) (upd_at _ _ _) (later_fresh hf)
    refine this.later fun j => ?_
    by_cases c : j = m
    · subst c; rw [upd_at, upd_at]; exact .inr rfl
    · rw [upd_ne c, upd_ne c]
      cases hj : ρ j <;> simp
end Go.FX
namespace Go.FX
variable [Sym]
section
variable {P : Program} {E : Env} {n : Nat} {ops : Array Oper} {ord : List (Nat × Oper)}

/-- What is known of what one looks at: who is ahead has written it, or it is as it was. -/
def Seen (l : List Oper) (ord : List (Nat × Oper)) (tm0 tm : Tm) (x : Nat × Oper) (tmx : Tm) : Prop :=
  ∀ t, t < tmMost → (looksAt l x.2 t = false → Tm.at tmx t = .u) ∧ (looksAt l x.2 t = true →
    (∀ z ∈ ord, z.2.dst = some t → bit (natAt (aheads l []) x.1) z.1 = true → Tm.at tmx t = Tm.at tm t) ∧
    ((∀ z ∈ ord, z.2.dst = some t → bit (natAt (aheads l []) x.1) z.1 = false) → Tm.at tmx t = Tm.at tm0 t))
/-- An operation that was run ahead of its time. -/
def Pend (P : Program) (E : Env) (l : List Oper) (ord : List (Nat × Oper)) (n : Nat) (tm0 : Tm) (h0 : Heap) (nb : Nat → Option Nat) (tm : Tm) (h : Heap) (ρ : Rho) (x : Nat × Oper) : Prop :=
  ∃ tmx b v, Seen l ord tm0 tm x tmx ∧ gbv l x.2 tmx = some b ∧ (∀ d, x.2.dst = some d → d < n ∧ d < tmMost ∧ Tm.at tm d = v) ∧ (b = false → v = .o undef) ∧
    (b = true → (∀ c, x.2.op ≠ .defer c) ∧ kindOf E x.2.op ≠ 3 ∧
      (kindOf E x.2.op = 0 → ∀ ρ (a : Act) w, TR ρ tmx a.tmps → ∃ v', Does P x.2 a w v' w ∧ FVR ρ v v') ∧
      (kindOf E x.2.op = 1 → ∀ ρ (a : Act) w, TR ρ tmx a.tmps → HRs ρ h w → ∃ v', Does P x.2 a w v' w ∧ FVR ρ v v') ∧
      (kindOf E x.2.op = 2 → ∃ m B, nb x.1 = some m ∧ h0.nx ≤ m ∧ m < h.nx ∧ ρ m = .fresh ∧ (h.get m = some B ∨ h.get m = none) ∧ ∀ ρ (a : Act) w, TR ρ tmx a.tmps →
        ∃ v' ob i dr, Does P x.2 a w v' { w with heap := w.heap.push ob, drawn := dr } ∧ (∀ ρ', Later ρ ρ' → BR ρ' 0 i B ob) ∧ ∀ ρ', ρ' m = .at w.heap.size 0 i → FVR ρ' v v'))
theorem nodup_eq {ord : List (Nat × Oper)} (hn : (ord.map (·.1)).Nodup) {x y : Nat × Oper} (hx : x ∈ ord) (hy : y ∈ ord) (e : x.1 = y.1) : x = y := by
  induction ord with
  | nil => cases hx
  | cons z zs ih =>
    rw [List.map_cons, List.nodup_cons] at hn
    rcases List.mem_cons.1 hx with h1 | h1 <;> rcases List.mem_cons.1 hy with h2 | h2
    · rw [h1, h2]
    · exact absurd (by rw [← h1, e]; exact List.mem_map.2 ⟨y, h2, rfl⟩) hn.1
    · exact absurd (by rw [← h2, ← e]; exact List.mem_map.2 ⟨x, h1, rfl⟩) hn.1
    · exact ih hn.2 h1 h2
/-- All that holds between two steps. S: what is done in truth. -/
structure Inv (P : Program) (E : Env) (ops : Array Oper) (ord : List (Nat × Oper)) (n : Nat) (D : List Deferred) (tm0 : Tm) (ρ0 : Rho) (h0 : Heap) (w0 : World) (S : Nat → Prop) (ran rest : List (Nat × Oper)) (tm : Tm) (h : Heap) (ρ : Rho) (a : Act) (w : World) (nb : Nat → Option Nat) : Prop where
  oeq : ord = ran.reverse ++ rest
  clo : ∀ i o, ops.toList[i]? = some o → S i → ∀ e ∈ o.after.toList, Region.binds .any e = true → S e.on
  sub : ∀ i, S i → i ∈ ran.map (·.1)
  eff : ∀ x ∈ ran, kindOf E x.2.op = 3 → S x.1
  t1 : ∀ t, t < tmMost → (∀ y ∈ ran, y.2.dst ≠ some t) → Tm.at tm t = Tm.at tm0 t
  g : GR ρ
  r1 : ∀ t, t < tmMost → (∀ z ∈ ord, z.2.dst = some t → S z.1 → FVR ρ (Tm.at tm t) (a.tmps.getD t undef)) ∧ ((∀ z ∈ ord, z.2.dst = some t → ¬ S z.1) → FVR ρ (Tm.at tm0 t) (a.tmps.getD t undef))
  size : a.tmps.size = n
  defers : a.defers = D
  hr : HR ρ h w
  ext : Ext E.lo ρ0 h0 w0 ρ h w
  pend : ∀ x ∈ ran, ¬ S x.1 → Pend P E ops.toList ord n tm0 h0 nb tm h ρ x
  nbi : ∀ i j m, nb i = some m → nb j = some m → i = j
  nbl : ∀ i m, nb i = some m → m < h.nx

section
variable {D : List Deferred} {tm0 : Tm} {ρ0 : Rho} {h0 : Heap} {w0 : World} {S : Nat → Prop} {ran rest : List (Nat × Oper)} {tm : Tm} {h : Heap} {ρ : Rho} {a : Act} {w : World} {nb : Nat → Option Nat}
theorem Inv.mem {x : Nat × Oper} (i : Inv P E ops ord n D tm0 ρ0 h0 w0 S ran rest tm h ρ a w nb) : x ∈ ord ↔ x ∈ ran ∨ x ∈ rest := by rw [i.oeq]; simp
/-- One that is ready waits for nobody. -/
theorem Inv.aheadS (i : Inv P E ops ord n D tm0 ρ0 h0 w0 S ran rest tm h ρ a w nb) (of : OrdF E ops.toList ord) {x : Nat × Oper} (hx : x ∈ ord) (hrd : ∀ e ∈ x.2.after.toList, Region.binds .any e = true → S e.on) (j : Nat) (hj : bit (natAt (aheads ops.toList []) x.1) j = true) : S j :=
  ahead_in i.clo x.1 x.2 (of.at' x hx) hrd j hj
theorem Inv.aheadS' (i : Inv P E ops ord n D tm0 ρ0 h0 w0 S ran rest tm h ρ a w nb) (of : OrdF E ops.toList ord) {x : Nat × Oper} (hx : x ∈ ord) (hs : S x.1) (j : Nat) (hj : bit (natAt (aheads ops.toList []) x.1) j = true) : S j :=
  i.aheadS of hx (i.clo x.1 x.2 (of.at' x hx) hs) j hj
/-- Of one that is ready, what it looks at is known. -/
theorem Inv.seenTR (i : Inv P E ops ord n D tm0 ρ0 h0 w0 S ran rest tm h ρ a w nb) (of : OrdF E ops.toList ord) {x : Nat × Oper} (hx : x ∈ ord) (hns : ¬ S x.1) (hrd : ∀ e ∈ x.2.after.toList, Region.binds .any e = true → S e.on) {tmx : Tm} (hs : Seen ops.toList ord tm0 tm x tmx) : TR ρ tmx a.tmps := by
  refine ⟨i.g, fun t ht => ?_⟩
  obtain ⟨s1, s2⟩ := hs t ht
  cases hl : looksAt ops.toList x.2 t with
  | false => rw [s1 hl]; trivial
  | true =>
    obtain ⟨s3, s4⟩ := s2 hl
    by_cases c : ∃ z ∈ ord, z.2.dst = some t ∧ bit (natAt (aheads ops.toList []) x.1) z.1 = true
    · obtain ⟨z, z1, z2, z3⟩ := c
      rw [s3 z z1 z2 z3]
      exact (i.r1 t ht).1 z z1 z2 (i.aheadS of hx hrd _ z3)
    · have c' : ∀ z ∈ ord, z.2.dst = some t → bit (natAt (aheads ops.toList []) x.1) z.1 = false := fun z z1 z2 => by
        cases hb : bit (natAt (aheads ops.toList []) x.1) z.1 with
        | false => rfl
        | true => exact absurd ⟨z, z1, z2, hb⟩ c
      rw [s4 c']
      refine (i.r1 t ht).2 fun z z1 z2 zs => ?_
      by_cases e : x.1 = z.1
      · rw [← e] at zs; exact hns zs
      · rcases (of.dst z z1 t z2 x hx e).2 with g | g | g
        · rw [c' z z1 z2] at g; cases g
        · exact hns (i.aheadS' of z1 zs _ g)
        · rw [hl] at g; cases g
/-- The next to be run: what it looks at now. -/
theorem Inv.seenNow {x : Nat × Oper} {xs : List (Nat × Oper)} (i : Inv P E ops ord n D tm0 ρ0 h0 w0 S ran (x :: xs) tm h ρ a w nb) (of : OrdF E ops.toList ord) {tmx : Tm} (ha : Agree ops.toList x.2 tm tmx) (hu : ∀ t, t < tmMost → looksAt ops.toList x.2 t = false → Tm.at tmx t = .u) :
    Seen ops.toList ord tm0 tm x tmx := by
  have hx : x ∈ ord := i.mem.2 (.inr List.mem_cons_self)
  refine fun t ht => ⟨hu t ht, fun hl => ⟨fun z z1 z2 z3 => (ha t ht hl).symm, fun hz => ?_⟩⟩
  rw [← ha t ht hl]
  refine i.t1 t ht fun y hy hd => ?_
  have hy' : y ∈ ord := i.mem.2 (.inl hy)
  have hne : x.1 ≠ y.1 := fun e => by
    have hn := of.nodup
    rw [i.oeq, List.map_append, List.nodup_append] at hn
    exact hn.2.2 y.1 (List.mem_map.2 ⟨y, List.mem_reverse.2 hy, rfl⟩) x.1 (List.mem_map.2 ⟨x, List.mem_cons_self, rfl⟩) e.symm
  rcases (of.dst y hy' t hd x hx hne).2 with g | g | g
  · rw [hz y hy' hd] at g; cases g
  · obtain ⟨p, q, hpq⟩ := List.append_of_mem (List.mem_reverse.2 hy)
    have := of.ahead p y (q ++ x :: xs) (by rw [i.oeq, hpq]; simp) _ g
    have hn := of.nodup
    rw [i.oeq, List.map_append, List.nodup_append] at hn
    refine hn.2.2 x.1 ?_ x.1 (List.mem_map.2 ⟨x, List.mem_cons_self, rfl⟩) rfl
    rw [hpq, List.map_append]
    exact List.mem_append_left _ this
  · rw [hl] at g; cases g
/-- What is known stays known when the next is run. -/
theorem Seen.step {x y : Nat × Oper} {xs : List (Nat × Oper)} (of : OrdF E ops.toList ord) (ho : ord = ran.reverse ++ x :: xs) (hy : y ∈ ran ∨ y = x) {tmx tm' : Tm} {v : FV} (hput : ∀ j, j < tmMost → Tm.at tm' j = if x.2.dst = some j then v else Tm.at tm j) (hs : Seen ops.toList ord tm0 tm y tmx) :
    Seen ops.toList ord tm0 tm' y tmx := by
  refine fun t ht => ⟨(hs t ht).1, fun hl => ⟨fun z z1 z2 z3 => ?_, ((hs t ht).2 hl).2⟩⟩
  rw [((hs t ht).2 hl).1 z z1 z2 z3, hput t ht, if_neg]
  intro hd
  have hx : x ∈ ord := by rw [ho]; simp
  by_cases e : z.1 = x.1
  · have := nodup_eq of.nodup z1 hx e
    subst this
    -- x is ahead of y
    have hn := of.nodup
    rw [ho, List.map_append, List.nodup_append] at hn
    rcases hy with hy | hy
    · obtain ⟨p, q, hpq⟩ := List.append_of_mem (List.mem_reverse.2 hy)
      have := of.ahead p y (q ++ z :: xs) (by rw [ho, hpq]; simp) _ z3
      refine hn.2.2 z.1 ?_ z.1 (List.mem_map.2 ⟨z, List.mem_cons_self, rfl⟩) rfl
      rw [hpq, List.map_append]
      exact List.mem_append_left _ this
    · subst hy
      have := of.ahead _ y xs ho _ z3
      exact hn.2.2 y.1 this y.1 (List.mem_map.2 ⟨y, List.mem_cons_self, rfl⟩) rfl
  · exact (of.dst x hx t hd z z1 e).1 z2
theorem Inv.t1_step {x : Nat × Oper} {xs : List (Nat × Oper)} (i : Inv P E ops ord n D tm0 ρ0 h0 w0 S ran (x :: xs) tm h ρ a w nb) {tm' : Tm} {v : FV} (hput : ∀ j, j < tmMost → Tm.at tm' j = if x.2.dst = some j then v else Tm.at tm j) :
    ∀ t, t < tmMost → (∀ y ∈ x :: ran, y.2.dst ≠ some t) → Tm.at tm' t = Tm.at tm0 t := fun t ht hy => by
  rw [hput t ht, if_neg (hy x List.mem_cons_self)]
  exact i.t1 t ht fun y hy' => hy y (List.mem_cons_of_mem _ hy')
theorem Inv.dst_step {x y : Nat × Oper} {xs : List (Nat × Oper)} (i : Inv P E ops ord n D tm0 ρ0 h0 w0 S ran (x :: xs) tm h ρ a w nb) (of : OrdF E ops.toList ord) (hy : y ∈ ran) : y.1 ≠ x.1 ∧ ∀ d, y.2.dst = some d → x.2.dst ≠ some d := by
  have hx : x ∈ ord := i.mem.2 (.inr List.mem_cons_self)
  have hy' : y ∈ ord := i.mem.2 (.inl hy)
  have hne : y.1 ≠ x.1 := fun e => by
    have hn := of.nodup
    rw [i.oeq, List.map_append, List.nodup_append] at hn
    exact hn.2.2 y.1 (List.mem_map.2 ⟨y, List.mem_reverse.2 hy, rfl⟩) x.1 (List.mem_map.2 ⟨x, List.mem_cons_self, rfl⟩) e
  exact ⟨hne, fun d hd hd' => (of.dst x hx d hd' y hy' hne).1 hd⟩
end
end
end Go.FX
namespace Go.FX
variable [Sym]
theorem put_getD (a : Act) (dst : Option Tmp) (v : Value) (t : Nat) (ht : t < a.tmps.size) : (a.put dst v).tmps.getD t undef = if dst = some t then v else a.tmps.getD t undef := by
  cases dst with
  | none => simp [Act.put]
  | some d =>
    show (a.tmps.setIfInBounds d v).getD t undef = _
    by_cases e : d = t
    · subst e
      rw [if_pos rfl]
      simp [Array.getD, ht]
    · rw [if_neg (by intro c; cases c; exact e rfl)]
      simp only [Array.getD_eq_getD_getElem?]
      rw [Array.getElem?_setIfInBounds_ne e]
theorem put_getD_ne (a : Act) (dst : Option Tmp) (v : Value) (t : Nat) (h : dst ≠ some t) : (a.put dst v).tmps.getD t undef = a.tmps.getD t undef := by
  cases dst with
  | none => simp [Act.put]
  | some d =>
    show (a.tmps.setIfInBounds d v).getD t undef = _
    simp only [Array.getD_eq_getD_getElem?]
    rw [Array.getElem?_setIfInBounds_ne (by intro c; subst c; exact h rfl)]
section
variable {P : Program} {E : Env} {n : Nat} {ops : Array Oper} {ord : List (Nat × Oper)}
variable {D : List Deferred} {tm0 : Tm} {ρ0 : Rho} {h0 : Heap} {w0 : World} {S : Nat → Prop} {ran rest : List (Nat × Oper)} {tm : Tm} {h : Heap} {ρ : Rho} {a : Act} {w : World} {nb : Nat → Option Nat}
theorem Pend.mono {l : List Oper} {tm' : Tm} {h' : Heap} {nb' : Nat → Option Nat} {y : Nat × Oper} (hs : ∀ tmx, Seen l ord tm0 tm y tmx → Seen l ord tm0 tm' y tmx) (hd : ∀ d, d < tmMost → y.2.dst = some d → Tm.at tm' d = Tm.at tm d)
    (hsub : Sub h h') (hget : ∀ m, m < h.nx → h'.get m = h.get m) (hnx : h.nx ≤ h'.nx) (hnb : nb' y.1 = nb y.1) (hp : Pend P E l ord n tm0 h0 nb tm h ρ y) : Pend P E l ord n tm0 h0 nb' tm' h' ρ y := by
  obtain ⟨tmx, b, v, p1, p2, p3, p4, p5⟩ := hp
  refine ⟨tmx, b, v, hs _ p1, p2, fun d hdd => ?_, p4, fun hb => ?_⟩
  · obtain ⟨q1, q2, q3⟩ := p3 d hdd
    exact ⟨q1, q2, by rw [hd d q2 hdd]; exact q3⟩
  · obtain ⟨q0, q1, q2, q3, q4⟩ := p5 hb
    refine ⟨q0, q1, q2, fun hk ρ a w ht hr => q3 hk ρ a w ht ?_, fun hk => ?_⟩
    · obtain ⟨h2, s1, s2⟩ := hr
      exact ⟨h2, hsub.trans s1, s2⟩
    · obtain ⟨m, B, m1, m2, m3, m4, m5, m6⟩ := q4 hk
      exact ⟨m, B, by rw [hnb]; exact m1, m2, Nat.lt_of_lt_of_le m3 hnx, m4, by rw [hget m m3]; exact m5, m6⟩
theorem kind_le (E : Env) (o : Op) : kindOf E o ≤ 3 := by
  unfold kindOf
  repeat' split
  all_goals omega
theorem no_defer {r : FR} {o : Op} {tm : Tm} {h : Heap} {k : K} {L : List (FV × Heap)} (e : (compOp E o).g r tm h k = some L) (c : Call) : o ≠ .defer c := fun hc => by rw [hc] at e; cases e
/-- The abstract run goes on by one that is no write. -/
theorem Inv.adv (ok : EnvOk P E) (qs : EqsOk P E) {r : FR} (of : OrdF E ops.toList ord) {x : Nat × Oper} {xs : List (Nat × Oper)} (i : Inv P E ops ord n D tm0 ρ0 h0 w0 S ran (x :: xs) tm h ρ a w nb) (hk3 : kindOf E x.2.op ≠ 3) {k : Tm → Heap → R} {L : List (FV × Heap)}
    (e : (step1 E n ops.toList x.2).g r tm h k = some L) : ∃ tm' h' nb', Inv P E ops ord n D tm0 ρ0 h0 w0 S (x :: ran) xs tm' h' ρ a w nb' ∧ k tm' h' = some L := by
  have e1 := step1_some e
  rw [guard_f] at e1
  obtain ⟨tmx, ha, hu⟩ := lookTm ops.toList x.2 tm
  have hseen := i.seenNow of ha hu
  have hnot : x.1 ∉ ran.map (·.1) := fun hm => by
    obtain ⟨y, hy, he⟩ := List.mem_map.1 hm
    exact (i.dst_step of hy).1 he
  have hnS : ¬ S x.1 := fun hs => hnot (i.sub _ hs)
  -- what is the same in all cases
  have key : ∀ (tm' : Tm) (h' : Heap) (nb' : Nat → Option Nat) (v : FV), (∀ j, j < tmMost → Tm.at tm' j = if x.2.dst = some j then v else Tm.at tm j) → HR ρ h' w → Ext E.lo ρ0 h0 w0 ρ h' w →
      Sub h h' → (∀ m, m < h.nx → h'.get m = h.get m) → h.nx ≤ h'.nx → (∀ j, j ≠ x.1 → nb' j = nb j) → (∀ i j m, nb' i = some m → nb' j = some m → i = j) → (∀ i m, nb' i = some m → m < h'.nx) →
      Pend P E ops.toList ord n tm0 h0 nb' tm' h' ρ x → Inv P E ops ord n D tm0 ρ0 h0 w0 S (x :: ran) xs tm' h' ρ a w nb' := by
    intro tm' h' nb' v hput hr' hx' hsub hget hnx hnb hnbi hnbl hp
    refine ⟨by rw [i.oeq]; simp, i.clo, fun j hj => by rw [List.map_cons]; exact List.mem_cons_of_mem _ (i.sub j hj), fun y hy hk => ?_, i.t1_step hput, i.g, fun t ht => ⟨fun z z1 z2 z3 => ?_, (i.r1 t ht).2⟩, i.size, i.defers, hr', hx', fun y hy hns => ?_, hnbi, hnbl⟩
    · rcases List.mem_cons.1 hy with c | c
      · subst c; exact absurd hk hk3
      · exact i.eff y c hk
    · rw [hput t ht, if_neg]
      · exact (i.r1 t ht).1 z z1 z2 z3
      · intro hd
        have hx : x ∈ ord := i.mem.2 (.inr List.mem_cons_self)
        have hne : z.1 ≠ x.1 := fun c => hnS (by rw [← c]; exact z3)
        exact (of.dst x hx t hd z z1 hne).1 z2
    · rcases List.mem_cons.1 hy with c | c
      · subst c; exact hp
      · obtain ⟨d1, d2⟩ := i.dst_step of c
        exact (i.pend y c hns).mono (fun tmx => Seen.step of i.oeq (.inl c) hput) (fun d hd hdd => by rw [hput d hd, if_neg (d2 d hdd)]) hsub hget hnx (hnb _ d1)
  cases hb : gbv ops.toList x.2 tm with
  | none => rw [hb] at e1; cases e1
  | some b =>
    rw [hb] at e1
    have hbx : gbv ops.toList x.2 tmx = some b := by rw [← ha.gbv]; exact hb
    cases b with
    | false =>
      have e2 : (put n x.2.dst).f tm (.o undef) (fun tm => k tm h) = some L := e1
      obtain ⟨tm', p1, p2, p3, _⟩ := put_sound e2
      refine ⟨tm', h, nb, key tm' h nb (.o undef) p3 i.hr i.ext (.refl h) (fun _ _ => rfl) (Nat.le_refl _) (fun _ _ => rfl) i.nbi i.nbl ?_, p1⟩
      exact ⟨tmx, false, .o undef, Seen.step of i.oeq (.inr rfl) p3 hseen, hbx, fun d hd => ⟨(p2 d hd).1, (p2 d hd).2, by rw [p3 d (p2 d hd).2, if_pos hd]⟩, fun _ => rfl, fun c => by cases c⟩
    | true =>
      have e2 : (compOp E x.2.op).g r tm h (fun v h => (put n x.2.dst).f tm v fun tm => k tm h) = some L := e1
      rw [ha.comp] at e2
      have hnd := no_defer e2
      have hs := kind_sound (o := x.2) ok qs r
      unfold KindS at hs
      split at hs
      · rename_i hk0
        obtain ⟨v, f1, f2⟩ := hs r tmx h _ L e2
        obtain ⟨tm', p1, p2, p3, _⟩ := put_sound f1
        refine ⟨tm', h, nb, key tm' h nb v p3 i.hr i.ext (.refl h) (fun _ _ => rfl) (Nat.le_refl _) (fun _ _ => rfl) i.nbi i.nbl ?_, p1⟩
        exact ⟨tmx, true, v, Seen.step of i.oeq (.inr rfl) p3 hseen, hbx, fun d hd => ⟨(p2 d hd).1, (p2 d hd).2, by rw [p3 d (p2 d hd).2, if_pos hd]⟩, fun c => (by cases c), fun _ => ⟨hnd, hk3, fun _ => f2, fun c => (by rw [hk0] at c; cases c), fun c => (by rw [hk0] at c; cases c)⟩⟩
      · rename_i hk1
        obtain ⟨v, f1, f2⟩ := hs r tmx h _ L e2
        obtain ⟨tm', p1, p2, p3, _⟩ := put_sound f1
        refine ⟨tm', h, nb, key tm' h nb v p3 i.hr i.ext (.refl h) (fun _ _ => rfl) (Nat.le_refl _) (fun _ _ => rfl) i.nbi i.nbl ?_, p1⟩
        exact ⟨tmx, true, v, Seen.step of i.oeq (.inr rfl) p3 hseen, hbx, fun d hd => ⟨(p2 d hd).1, (p2 d hd).2, by rw [p3 d (p2 d hd).2, if_pos hd]⟩, fun c => (by cases c), fun _ => ⟨hnd, hk3, fun c => (by rw [hk1] at c; cases c), fun _ => f2, fun c => (by rw [hk1] at c; cases c)⟩⟩
      · rename_i hk2
        obtain ⟨v, B, f0, f1, f2⟩ := hs r tmx h _ L e2
        obtain ⟨tm', p1, p2, p3, _⟩ := put_sound f1
        have hgm : ∀ m, m < h.nx → (h.made B).get m = h.get m := fun m hm => by rw [Heap.get_made i.hr.wf f0, if_neg (by omega)]
        refine ⟨tm', h.made B, fun j => if j = x.1 then some h.nx else nb j, key tm' (h.made B) _ v p3 (i.hr.early f0 B) (i.ext.early i.hr f0 B) (sub_made i.hr f0 B) hgm (Nat.le_succ _) (fun j hj => by rw [if_neg hj]) (fun j j' m c c' => ?_) (fun j m c => ?_) ?_, p1⟩
        · by_cases c1 : j = x.1 <;> by_cases c2 : j' = x.1
          · rw [c1, c2]
          · rw [if_pos c1] at c; rw [if_neg c2] at c'; cases c; exact absurd (i.nbl _ _ c') (by omega)
          · rw [if_neg c1] at c; rw [if_pos c2] at c'; cases c'; exact absurd (i.nbl _ _ c) (by omega)
          · rw [if_neg c1] at c; rw [if_neg c2] at c'; exact i.nbi _ _ _ c c'
        · show m < h.nx + 1
          by_cases c1 : j = x.1
          · rw [if_pos c1] at c; cases c; omega
          · rw [if_neg c1] at c; have := i.nbl _ _ c; omega
        · refine ⟨tmx, true, v, Seen.step of i.oeq (.inr rfl) p3 hseen, hbx, fun d hd => ⟨(p2 d hd).1, (p2 d hd).2, by rw [p3 d (p2 d hd).2, if_pos hd]⟩, fun c => (by cases c), fun _ => ⟨hnd, hk3, fun c => (by rw [hk2] at c; cases c), fun c => (by rw [hk2] at c; cases c), fun _ => ?_⟩⟩
          exact ⟨h.nx, B, (by show (if x.1 = x.1 then some h.nx else nb x.1) = _; rw [if_pos rfl]), i.ext.nx, Nat.lt_succ_self _, i.hr.nx _ (Nat.le_refl _), .inl (by rw [Heap.get_made i.hr.wf f0, if_pos rfl]), f2⟩
      · rename_i hk0 hk1 hk2
        -- the other numbers
        have a0 : kindOf E x.2.op ≠ 0 := hk0
        have a1 : kindOf E x.2.op ≠ 1 := hk1
        have a2 : kindOf E x.2.op ≠ 2 := hk2
        have := kind_le E x.2.op
        omega
end
end Go.FX
namespace Go.FX
variable [Sym]
section
variable {P : Program} {E : Env} {n : Nat} {ops : Array Oper} {ord : List (Nat × Oper)}
variable {D : List Deferred} {tm0 : Tm} {ρ0 : Rho} {h0 : Heap} {w0 : World} {S : Nat → Prop} {ran rest : List (Nat × Oper)} {tm : Tm} {h : Heap} {ρ : Rho} {a : Act} {w : World} {nb : Nat → Option Nat}
/-- One more is done in truth. -/
theorem Inv.done (of : OrdF E ops.toList ord) {x : Nat × Oper} {ran' rest' : List (Nat × Oper)} {tm' : Tm} {h' : Heap} {ρ' : Rho} {w' : World} {v' : Value} {v : FV} {nb' : Nat → Option Nat}
    (i : Inv P E ops ord n D tm0 ρ0 h0 w0 S ran rest tm h ρ a w nb) (hx : x ∈ ord) (hrd : ∀ e ∈ x.2.after.toList, Region.binds .any e = true → S e.on)
    (hoeq : ord = ran'.reverse ++ rest') (hran : ∀ y ∈ ran, y ∈ ran') (hran' : ∀ y ∈ ran', y ∈ ran ∨ y = x) (hxr : x ∈ ran')
    (hlater : Later ρ ρ') (hput : ∀ j, j < tmMost → Tm.at tm' j = if x.2.dst = some j then v else Tm.at tm j) (hdn : ∀ d, x.2.dst = some d → d < n) (hv : FVR ρ' v v')
    (hr' : HR ρ' h' w') (hx' : Ext E.lo ρ0 h0 w0 ρ' h' w') (hp : ∀ y ∈ ran, y.1 ≠ x.1 → ¬ S y.1 → Pend P E ops.toList ord n tm0 h0 nb' tm' h' ρ' y)
    (hnbi : ∀ i j m, nb' i = some m → nb' j = some m → i = j) (hnbl : ∀ i m, nb' i = some m → m < h'.nx) :
    Inv P E ops ord n D tm0 ρ0 h0 w0 (fun j => S j ∨ j = x.1) ran' rest' tm' h' ρ' (a.put x.2.dst v') w' nb' := by
  refine ⟨hoeq, fun j o hj hs e he hb => ?_, fun j hj => ?_, fun y hy hk => ?_, fun t ht hy => ?_, i.g.later hlater, fun t ht => ⟨fun z z1 z2 z3 => ?_, fun hz => ?_⟩, by rw [put_size]; exact i.size, by rw [put_defers']; exact i.defers, hr', hx', fun y hy hns => ?_, hnbi, hnbl⟩
  · rcases hs with hs | hs
    · exact .inl (i.clo j o hj hs e he hb)
    · subst hs
      have := of.at' x hx
      rw [hj] at this; cases this
      exact .inl (hrd e he hb)
  · rcases hj with hj | hj
    · obtain ⟨y, hy, e⟩ := List.mem_map.1 (i.sub j hj)
      exact List.mem_map.2 ⟨y, hran y hy, e⟩
    · exact List.mem_map.2 ⟨x, hxr, hj.symm⟩
  · rcases hran' y hy with c | c
    · exact .inl (i.eff y c hk)
    · exact .inr (by rw [c])
  · rw [hput t ht, if_neg (hy x hxr)]
    exact i.t1 t ht fun y hy' => hy y (hran y hy')
  · by_cases e : z.1 = x.1
    · have := nodup_eq of.nodup z1 hx e
      subst this
      rw [hput t ht, if_pos z2, put_getD _ _ _ _ (by rw [i.size]; exact hdn t z2), if_pos z2]
      exact hv
    · have hd : x.2.dst ≠ some t := fun hd => (of.dst x hx t hd z z1 e).1 z2
      rw [hput t ht, if_neg hd, put_getD_ne _ _ _ _ hd]
      rcases z3 with z3 | z3
      · exact ((i.r1 t ht).1 z z1 z2 z3).later hlater
      · exact absurd z3 e
  · have hd : x.2.dst ≠ some t := fun hd => hz x hx hd (.inr rfl)
    rw [put_getD_ne _ _ _ _ hd]
    exact ((i.r1 t ht).2 fun z z1 z2 z3 => hz z z1 z2 (.inl z3)).later hlater
  · have h1 : y.1 ≠ x.1 := fun c => hns (.inr c)
    rcases hran' y hy with c | c
    · exact hp y c h1 fun c => hns (.inl c)
    · exact absurd (by rw [c]) h1
/-- One that was run ahead is done. -/
theorem Inv.pendStep (of : OrdF E ops.toList ord) {x : Nat × Oper} (i : Inv P E ops ord n D tm0 ρ0 h0 w0 S ran rest tm h ρ a w nb) (hx : x ∈ ran) (hns : ¬ S x.1) (hrd : ∀ e ∈ x.2.after.toList, Region.binds .any e = true → S e.on)
    {ro : Option Nat} {m : Nat} {Q : Exit → Act → World → Prop} {K : Act → World → Prop} (hK : ∀ ρ' a' w', Inv P E ops ord n D tm0 ρ0 h0 w0 (fun j => S j ∨ j = x.1) ran rest tm h ρ' a' w' nb → K a' w') :
    wpOpIn (fence ro) m P ops Q x.1 K a w := by
  have hxo : x ∈ ord := i.mem.2 (.inl hx)
  obtain ⟨tmx, b, v, p1, p2, p3, p4, p5⟩ := i.pend x hx hns
  have ht := i.seenTR of hxo hns hrd p1
  have hw := gbv_sound p2 ht
  have hat : ops[x.1]? = some x.2 := by rw [← Array.getElem?_toList]; exact of.at' x hxo
  have hput : ∀ j, j < tmMost → Tm.at tm j = if x.2.dst = some j then v else Tm.at tm j := fun j hj => by
    split
    · rename_i hd; exact (p3 j hd).2.2
    · rfl
  have hpend : ∀ ρ', (∀ m, (∃ y ∈ ran, y.1 ≠ x.1 ∧ nb y.1 = some m) → ρ m = .fresh → ρ' m = .fresh) → ∀ y ∈ ran, y.1 ≠ x.1 → ¬ S y.1 → Pend P E ops.toList ord n tm0 h0 nb tm h ρ' y := fun ρ' hf y hy hne hs => by
    obtain ⟨tmx, b, v, q1, q2, q3, q4, q5⟩ := i.pend y hy hs
    refine ⟨tmx, b, v, q1, q2, q3, q4, fun hb => ?_⟩
    obtain ⟨u0, u1, u2, u3, u4⟩ := q5 hb
    refine ⟨u0, u1, u2, u3, fun hk => ?_⟩
    obtain ⟨m, B, m1, m2, m3, m4, m5, m6⟩ := u4 hk
    exact ⟨m, B, m1, m2, m3, hf m ⟨y, hy, hne, m1⟩ m4, m5, m6⟩
  unfold wpOpIn
  rw [hat]
  dsimp only
  rw [hw]
  cases b with
  | false =>
    rw [if_neg (by decide)]
    have hv := p4 rfl
    refine ⟨fun f _ => fence_fn ro f, hK ρ _ w ?_⟩
    exact i.done of hxo hrd i.oeq (fun _ h => h) (fun y hy => .inl hy) hx (.refl ρ) hput (fun d hd => (p3 d hd).1) (by rw [hv]; exact undef_VR) i.hr i.ext (hpend ρ fun _ _ h => h) i.nbi i.nbl
  | true =>
    rw [if_pos rfl]
    obtain ⟨u0, u1, u2, u3, u4⟩ := p5 rfl
    have hle := kind_le E x.2.op
    have hcase : kindOf E x.2.op = 0 ∨ kindOf E x.2.op = 1 ∨ kindOf E x.2.op = 2 := by omega
    rcases hcase with hk | hk | hk
    · obtain ⟨v', g1, g2⟩ := u2 hk ρ a w ht
      refine wpIn_of_does u0 g1 (hK ρ _ w ?_)
      exact i.done of hxo hrd i.oeq (fun _ h => h) (fun y hy => .inl hy) hx (.refl ρ) hput (fun d hd => (p3 d hd).1) g2 i.hr i.ext (hpend ρ fun _ _ h => h) i.nbi i.nbl
    · obtain ⟨v', g1, g2⟩ := u3 hk ρ a w ht i.hr.s
      refine wpIn_of_does u0 g1 (hK ρ _ w ?_)
      exact i.done of hxo hrd i.oeq (fun _ h => h) (fun y hy => .inl hy) hx (.refl ρ) hput (fun d hd => (p3 d hd).1) g2 i.hr i.ext (hpend ρ fun _ _ h => h) i.nbi i.nbl
    · obtain ⟨mb, B, m1, m2, m3, m4, m5, m6⟩ := u4 hk
      obtain ⟨v', ob, inf, dr, g1, g2, g3⟩ := m6 ρ a w ht
      obtain ⟨s, g4, g5, g6⟩ := HR.late (w' := { w with heap := w.heap.push ob, drawn := dr }) i.ext i.hr m2 m3 m4 m5 rfl rfl rfl rfl g2
      refine wpIn_of_does u0 g1 (hK (upd ρ mb s) (a.put x.2.dst v') { w with heap := w.heap.push ob, drawn := dr } ?_)
      refine i.done of hxo hrd i.oeq (fun _ h => h) (fun y hy => .inl hy) hx (later_fresh m4) hput (fun d hd => (p3 d hd).1) (g6 v v' fun ρ' h1 _ => g3 ρ' h1) g4 g5 (hpend _ fun m hm hf => ?_) i.nbi i.nbl
      obtain ⟨y, hy, hne, hyb⟩ := hm
      rw [upd_ne (fun c => hne (i.nbi _ _ _ hyb (by rw [c]; exact m1)))]
      exact hf
end
end Go.FX
namespace Go.FX
variable [Sym]

/-! ### What is held against each other is the same -/

theorem beqs_eq2 : ∀ {xs ys : List UInt8}, beqs xs ys = true → xs = ys
  | [], [], _ => rfl
  | x :: xs, y :: ys, h => by
    unfold beqs at h
    obtain ⟨h1, h2⟩ := and_true' h
    rw [UInt8.toNat_inj.1 (Nat.eq_of_beq_eq_true h1), beqs_eq2 h2]
  | [], _ :: _, h => by cases h
  | _ :: _, [], h => by cases h
theorem bytes_eq2 {a b : ByteArray} (h : beqs a.data.toList b.data.toList = true) : a = b := by
  have := beqs_eq2 h
  cases a with
  | mk a => cases b with
    | mk b => congr 1; exact Array.toList_inj.1 this
theorem kno_inj2 {k j : IntKind} (h : Nat.beq (kno k) (kno j) = true) : k = j := by
  have := Nat.eq_of_beq_eq_true h
  cases k <;> cases j <;> first | rfl | (exact absurd this (by decide))
theorem oaeq_eq {a b : Option Addr} (h : oaeq a b = true) : a = b := by
  unfold oaeq at h
  split at h
  · rfl
  · obtain ⟨h1, h2⟩ := and_true' h
    rw [Nat.eq_of_beq_eq_true h1, Nat.eq_of_beq_eq_true h2]
  · cases h
theorem oneq_eq {a b : Option Nat} (h : oneq a b = true) : a = b := by
  unfold oneq at h
  split at h
  · rfl
  · rw [Nat.eq_of_beq_eq_true h]
  · cases h
theorem fnEq_eq {a b : Fn} (h : fnEq a b = true) : a = b := by
  unfold fnEq at h
  split at h
  · rw [Nat.eq_of_beq_eq_true h]
  · cases h
theorem veqs_eq {f : Value → Value → Bool} (hf : ∀ x y, f x y = true → x = y) : ∀ {xs ys : List Value}, veqs f xs ys = true → xs = ys
  | [], [], _ => rfl
  | x :: xs, y :: ys, h => by
    unfold veqs at h
    obtain ⟨h1, h2⟩ := and_true' h
    rw [hf _ _ h1, veqs_eq hf h2]
  | [], _ :: _, h => by cases h
  | _ :: _, [], h => by cases h
theorem veq_eq : ∀ (n : Nat) (v w : Value), veq n v w = true → v = w
  | 0, _, _, h => by cases h
  | n + 1, v, w, h => by
    unfold veq at h
    split at h
    · rw [eq_of_beq h]
    · obtain ⟨h1, h2⟩ := and_true' h; rw [kno_inj2 h1, eq_of_beq h2]
    · rw [bytes_eq2 h]
    · rw [oaeq_eq h]
    · obtain ⟨h1, h2⟩ := and_true' h; obtain ⟨h3, h4⟩ := and_true' h1
      rw [oaeq_eq h3, Nat.eq_of_beq_eq_true h4, Nat.eq_of_beq_eq_true h2]
    · rw [oneq_eq h]
    · rw [oneq_eq h]
    · obtain ⟨h1, h2⟩ := and_true' h; obtain ⟨h3, h4⟩ := and_true' h1
      rw [fnEq_eq h3, Array.toList_inj.1 (veqs_eq (veq_eq n) h4), Array.toList_inj.1 (veqs_eq (veq_eq n) h2)]
    · rfl
    · obtain ⟨h1, h2⟩ := and_true' h; rw [Nat.eq_of_beq_eq_true h1, veq_eq n _ _ h2]
    · rfl
    · rw [Array.toList_inj.1 (veqs_eq (veq_eq n) h)]
    · rw [Array.toList_inj.1 (veqs_eq (veq_eq n) h)]
    · cases h
theorem fvEq_eq {x y : FV} (h : fvEq x y = true) : x = y ∧ x ≠ .u := by
  cases x with
  | i k n =>
    cases y <;> first | (exfalso; simp [fvEq] at h; done) | skip
    rename_i j m
    have h' : (Nat.beq (kno' k) (kno' j) && ieq n m) = true := h
    obtain ⟨h1, h2⟩ := and_true' h'
    exact ⟨by rw [kno'_inj _ _ h1, (eq_of_beq ((ieq_eq n m).symm.trans h2) : n = m)], by simp⟩
  | b t =>
    cases y <;> first | (exfalso; simp [fvEq] at h; done) | skip
    rename_i s
    have h' : (t == s) = true := h
    exact ⟨by rw [eq_of_beq h'], by simp⟩
  | p k o =>
    cases y <;> first | (exfalso; simp [fvEq] at h; done) | skip
    rename_i l p
    have h' : (Nat.beq k l && Nat.beq o p) = true := h
    obtain ⟨h1, h2⟩ := and_true' h'
    exact ⟨by rw [Nat.eq_of_beq_eq_true h1, Nat.eq_of_beq_eq_true h2], by simp⟩
  | s k o n c =>
    cases y <;> first | (exfalso; simp [fvEq] at h; done) | skip
    rename_i l p m d
    have h' : (Nat.beq k l && Nat.beq o p && Nat.beq n m && Nat.beq c d) = true := h
    obtain ⟨h1, h2⟩ := and_true' h'
    obtain ⟨h3, h4⟩ := and_true' h1
    obtain ⟨h5, h6⟩ := and_true' h3
    exact ⟨by rw [Nat.eq_of_beq_eq_true h2, Nat.eq_of_beq_eq_true h4, Nat.eq_of_beq_eq_true h5, Nat.eq_of_beq_eq_true h6], by simp⟩
  | o v =>
    cases y <;> first | (exfalso; simp [fvEq] at h; done) | skip
    rename_i w
    have h' : veq 8 v w = true := h
    exact ⟨by rw [veq_eq _ _ _ h'], by simp⟩
  | u => exact absurd h (by simp [fvEq])
theorem entsEq_eq : ∀ {es fs : List Entry}, entsEq es fs = true → es = fs
  | [], [], _ => rfl
  | x :: xs, y :: ys, h => by
    unfold entsEq at h
    obtain ⟨h1, h2⟩ := and_true' h
    obtain ⟨h3, h4⟩ := and_true' h1
    obtain ⟨h5, h6⟩ := and_true' h3
    cases x; cases y
    have e1 := veq_eq _ _ _ h5
    have e2 := veq_eq _ _ _ h6
    have e3 := Nat.eq_of_beq_eq_true h4
    dsimp only at e1 e2 e3
    rw [entsEq_eq h2, e1, e2, e3]
  | [], _ :: _, h => by cases h
  | _ :: _, [], h => by cases h
theorem blkEq_eq {a b : Blk} (h : blkEq a b = true) : a = b := by
  unfold blkEq at h
  split at h
  · obtain ⟨h1, h2⟩ := and_true' h
    obtain ⟨h3, h4⟩ := and_true' h1
    obtain ⟨h5, h6⟩ := and_true' h3
    rw [veqs_eq (veq_eq 8) h5, Nat.eq_of_beq_eq_true h6, Nat.eq_of_beq_eq_true h4, eq_of_beq h2]
  · obtain ⟨h1, h2⟩ := and_true' h
    rw [entsEq_eq h1, Nat.eq_of_beq_eq_true h2]
  · cases h
theorem treeEq_eq : ∀ {a b : T Blk}, treeEq a b = true → a = b
  | .nil, .nil, _ => rfl
  | .leaf a, .leaf b, h => by rw [blkEq_eq (a := a) (b := b) h]
  | .node a b, .node c d, h => by
    obtain ⟨h1, h2⟩ := and_true' (a := treeEq a c) (b := treeEq b d) h
    rw [treeEq_eq h1, treeEq_eq h2]
  | .nil, .leaf _, h => by cases h
  | .nil, .node _ _, h => by cases h
  | .leaf _, .nil, h => by cases h
  | .leaf _, .node _ _, h => by cases h
  | .node _ _, .nil, h => by cases h
  | .node _ _, .leaf _, h => by cases h

end Go.FX
namespace Go.FX
variable [Sym]
section
variable {P : Program} {E : Env} {n : Nat} {ops : Array Oper} {ord : List (Nat × Oper)}
variable {D : List Deferred} {tm0 : Tm} {ρ0 : Rho} {h0 : Heap} {w0 : World} {S : Nat → Prop} {ran rest : List (Nat × Oper)} {tm : Tm} {h : Heap} {ρ : Rho} {a : Act} {w : World} {nb : Nat → Option Nat}
/-- A read was asked again. -/
def Asked (E : Env) (l : List Oper) (r : FR) (tm : Tm) (h : Heap) (L : List (FV × Heap)) (x : Nat × Oper) : Prop :=
  ∃ b, gbv l x.2 tm = some b ∧ (b = true → ∃ k, (compOp E x.2.op).g r tm h k = some L ∧ ∀ v, k v h = some L → ∀ d, x.2.dst = some d → fvEq v (ev tm (.tmp d)) = true)
theorem read_of (ok : EnvOk P E) (qs : EqsOk P E) (r : FR) {o : Oper} (hk : kindOf E o.op = 1) : ReadS P (compOp E o.op).g o := by
  have hs := kind_sound (o := o) ok qs r
  unfold KindS at hs
  rw [hk] at hs
  exact hs
theorem again_some (ok : EnvOk P E) (qs : EqsOk P E) {l : List Oper} {r : FR} {x : Nat × Oper} (hk : kindOf E x.2.op = 1) {c : R} {L : List (FV × Heap)} (e : (again E l x.2).g r tm h c = some L) : c = some L ∧ Asked E l r tm h L x := by
  have hs := read_of ok qs r hk
  unfold again at e
  cases hd : x.2.dst with
  | none =>
    rw [hd] at e
    have e1 : (guardOf l x.2).f tm (fun b => Bool.rec c ((compOp E x.2.op).g r tm h fun _ _ => c) b) = some L := e
    rw [guard_f] at e1
    cases hb : gbv l x.2 tm with
    | none => rw [hb] at e1; cases e1
    | some b =>
      rw [hb] at e1
      cases b with
      | false => exact ⟨e1, false, hb, fun c => by cases c⟩
      | true =>
        have e2 : (compOp E x.2.op).g r tm h (fun _ _ => c) = some L := e1
        obtain ⟨v, f1, _⟩ := hs r tm h _ L e2
        exact ⟨f1, true, hb, fun _ => ⟨_, e2, fun v _ d hd' => by rw [hd] at hd'; cases hd'⟩⟩
  | some d =>
    rw [hd] at e
    have e1 : (guardOf l x.2).f tm (fun b => Bool.rec c ((compOp E x.2.op).g r tm h fun v _ => Bool.rec none c (fvEq v ((opd (.tmp d)).f tm))) b) = some L := e
    rw [guard_f] at e1
    cases hb : gbv l x.2 tm with
    | none => rw [hb] at e1; cases e1
    | some b =>
      rw [hb] at e1
      cases b with
      | false => exact ⟨e1, false, hb, fun c => by cases c⟩
      | true =>
        have e2 : (compOp E x.2.op).g r tm h (fun v _ => Bool.rec none c (fvEq v ((opd (.tmp d)).f tm))) = some L := e1
        obtain ⟨v, f1, _⟩ := hs r tm h _ L e2
        refine ⟨(rec_true f1).2, true, hb, fun _ => ⟨_, e2, fun v hv d' hd' => ?_⟩⟩
        rw [hd] at hd'; cases hd'
        rw [← opd_f]
        exact (rec_true hv).1
theorem cond_check {b : Bool} {A : Check} {r : FR} {tm : Tm} {h : Heap} {c : R} {L : List (FV × Heap)} (e : (bif b then A else ⟨fun _ _ _ _ => none⟩ : Check).g r tm h c = some L) : b = true ∧ A.g r tm h c = some L := by
  cases b with
  | false => cases e
  | true => exact ⟨rfl, e⟩
theorem agains_some (ok : EnvOk P E) (qs : EqsOk P E) {ah : List Nat} {l : List Oper} {r : FR} {e : Nat × Oper} {all : List (Nat × Oper)} {c : R} {L : List (FV × Heap)} : ∀ (zs : List (Nat × Oper)), (agains E ah l e all zs).g r tm h c = some L →
    c = some L ∧ ∀ x ∈ zs, kindOf E x.2.op = 1 → bit (natAt ah e.1) x.1 = false → (∀ y ∈ all, ∀ d, y.2.dst = some d → looksAt l x.2 d = true → bit (natAt ah x.1) y.1 = true) ∧ Asked E l r tm h L x
  | [], he => ⟨he, fun x hx => by cases hx⟩
  | z :: zs, he => by
    unfold agains at he
    cases hc : (Nat.beq (kindOf E z.2.op) 1 && !bit (natAt ah e.1) z.1) with
    | false =>
      rw [hc, cond_false] at he
      obtain ⟨g1, g2⟩ := agains_some ok qs zs he
      refine ⟨g1, fun x hx hk hb => ?_⟩
      rcases List.mem_cons.1 hx with q | q
      · subst q
        rw [hk, hb] at hc
        cases hc
      · exact g2 x q hk hb
    | true =>
      rw [hc, cond_true] at he
      obtain ⟨hk1, _⟩ := and_true' hc
      have hk1 := Nat.eq_of_beq_eq_true hk1
      obtain ⟨hd, he⟩ := cond_check he
      · have he' : (again E l z.2).g r tm h ((agains E ah l e all zs).g r tm h c) = some L := he
        obtain ⟨g0, g00⟩ := again_some ok qs hk1 he'
        obtain ⟨g1, g2⟩ := agains_some ok qs zs g0
        refine ⟨g1, fun x hx hk hb => ?_⟩
        rcases List.mem_cons.1 hx with q | q
        · subst q
          refine ⟨fun y hy d hyd hl => ?_, g00⟩
          have := List.all_eq_true.1 hd y hy
          rw [hyd] at this
          dsimp only at this
          rw [hl] at this
          simpa using this
        · exact g2 x q hk hb
/-- A write is done, and what was read ahead of it is as it was. -/
theorem Inv.effStep (ok : EnvOk P E) (qs : EqsOk P E) {r : FR} (fr : FRok P E.lo r) (of : OrdF E ops.toList ord) {e : Nat × Oper} {xs : List (Nat × Oper)} (i : Inv P E ops ord n D tm0 ρ0 h0 w0 S ran (e :: xs) tm h ρ a w nb) (hrd : ∀ x ∈ e.2.after.toList, Region.binds .any x = true → S x.on)
    {k : Tm → Heap → R} {L : List (FV × Heap)} (hrun : (step1 E n ops.toList e.2).g r tm h (fun tm h => (agains E (aheads ops.toList []) ops.toList e (e :: ran) ran).g r tm h (k tm h)) = some L)
    {ro : Option Nat} {m : Nat} {Q : Exit → Act → World → Prop} {K : Act → World → Prop} (hK : ∀ ρ' a' w' tm' h' L', Inv P E ops ord n D tm0 ρ0 h0 w0 (fun j => S j ∨ j = e.1) (e :: ran) xs tm' h' ρ' a' w' nb → k tm' h' = some L' → (∀ x ∈ L', x ∈ L) → K a' w') :
    wpOpIn (fence ro) m P ops Q e.1 K a w := by
  have heo : e ∈ ord := i.mem.2 (.inr List.mem_cons_self)
  have hnS : ¬ S e.1 := fun hs => by
    obtain ⟨y, hy, he⟩ := List.mem_map.1 (i.sub _ hs)
    exact (i.dst_step of hy).1 he
  have hat : ops[e.1]? = some e.2 := by rw [← Array.getElem?_toList]; exact of.at' e heo
  have e1 := step1_some hrun
  rw [guard_f] at e1
  obtain ⟨tmx, ha, hu⟩ := lookTm ops.toList e.2 tm
  have ht := i.seenTR of heo hnS hrd (i.seenNow of ha hu)
  -- what is the same in all cases
  have key : ∀ (v : FV) (v' : Value) (ρ' : Rho) (h' : Heap) (w' : World) (L' : List (FV × Heap)), FVR ρ' v v' → HR ρ' h' w' → Ext E.lo ρ h w ρ' h' w' → (∀ x ∈ L', x ∈ L) →
      (put n e.2.dst).f tm v (fun tm => (agains E (aheads ops.toList []) ops.toList e (e :: ran) ran).g r tm h' (k tm h')) = some L' → K (a.put e.2.dst v') w' := by
    intro v v' ρ' h' w' L' hv hr' hx' hl hp
    obtain ⟨tm', p1, p2, p3, _⟩ := put_sound hp
    obtain ⟨g1, g2⟩ := agains_some ok qs ran p1
    refine hK ρ' _ w' tm' h' L' (i.done of heo hrd (by rw [i.oeq]; simp) (fun y hy => List.mem_cons_of_mem _ hy) (fun y hy => (List.mem_cons.1 hy).symm) List.mem_cons_self hx'.later p3 (fun d hd => (p2 d hd).1) hv hr' (i.ext.trans hx') (fun y hy hne hns => ?_) i.nbi fun j mb hj => Nat.lt_of_lt_of_le (i.nbl j mb hj) hx'.nx) g1 hl
    obtain ⟨tmy, b, vy, q1, q2, q3, q4, q5⟩ := i.pend y hy hns
    have hseen := Seen.step of i.oeq (.inl hy) p3 q1
    have hdst : ∀ d, y.2.dst = some d → d < n ∧ d < tmMost ∧ Tm.at tm' d = vy := fun d hd => by
      obtain ⟨u1, u2, u3⟩ := q3 d hd
      exact ⟨u1, u2, by rw [p3 d u2, if_neg ((i.dst_step of hy).2 d hd)]; exact u3⟩
    cases b with
    | false => exact ⟨tmy, false, vy, hseen, q2, hdst, q4, fun c => by cases c⟩
    | true =>
      obtain ⟨u0, u1, u2, u3, u4⟩ := q5 rfl
      by_cases hk1 : kindOf E y.2.op = 1
      · have hna : bit (natAt (aheads ops.toList []) e.1) y.1 = false := by
          cases hb : bit (natAt (aheads ops.toList []) e.1) y.1 with
          | false => rfl
          | true => exact absurd (i.aheadS of heo hrd _ hb) hns
        obtain ⟨f1, b', f2, f3⟩ := g2 y hy hk1 hna
        have hag : Agree ops.toList y.2 tm' tmy := fun t ht hl => by
          obtain ⟨s1, s2⟩ := (hseen t ht).2 hl
          by_cases c : ∃ z ∈ ord, z.2.dst = some t ∧ bit (natAt (aheads ops.toList []) y.1) z.1 = true
          · obtain ⟨z, z1, z2, z3⟩ := c
            exact (s1 z z1 z2 z3).symm
          · rw [s2 fun z z1 z2 => ?_]
            · refine i.t1_step p3 t ht fun y2 hy2 hd2 => c ⟨y2, ?_, hd2, f1 y2 hy2 t hd2 hl⟩
              rcases List.mem_cons.1 hy2 with q | q
              · rw [q]; exact heo
              · exact i.mem.2 (.inl q)
            · cases hb : bit (natAt (aheads ops.toList []) y.1) z.1 with
              | false => rfl
              | true => exact absurd ⟨z, z1, z2, hb⟩ c
        rw [hag.gbv, q2] at f2
        cases f2
        obtain ⟨k2, f4, f5⟩ := f3 rfl
        rw [hag.comp] at f4
        obtain ⟨v2, f6, f7⟩ := read_of ok qs r hk1 r tmy h' k2 L' f4
        refine ⟨tmy, true, v2, hseen, q2, fun d hd => ?_, fun c => (by cases c), fun _ => ⟨u0, u1, fun c => (by rw [hk1] at c; cases c), fun _ => f7, fun c => (by rw [hk1] at c; cases c)⟩⟩
        obtain ⟨d1, d2, d3⟩ := hdst d hd
        refine ⟨d1, d2, ?_⟩
        have := (fvEq_eq (f5 v2 f6 d hd)).1
        rw [this]
        show _ = (if d < tmMost then Tm.at tm' d else .u)
        rw [if_pos d2]
      · refine ⟨tmy, true, vy, hseen, q2, hdst, q4, fun _ => ⟨u0, u1, u2, fun c => absurd c hk1, fun hk => ?_⟩⟩
        obtain ⟨mb, B, m1, m2, m3, m4, m5, m6⟩ := u4 hk
        obtain ⟨x1, x2⟩ := hx'.fresh mb m3 m4
        refine ⟨mb, B, m1, m2, Nat.lt_of_lt_of_le m3 hx'.nx, x1, ?_, m6⟩
        rcases x2 with x2 | x2
        · rw [x2]; exact m5
        · exact .inr x2
  unfold wpOpIn
  rw [hat]
  dsimp only
  cases hb : gbv ops.toList e.2 tm with
  | none => rw [hb] at e1; cases e1
  | some b =>
    rw [hb] at e1
    have hbx : gbv ops.toList e.2 tmx = some b := by rw [← ha.gbv]; exact hb
    rw [gbv_sound hbx ht]
    cases b with
    | false =>
      rw [if_neg (by decide)]
      exact ⟨fun f _ => fence_fn ro f, key (.o undef) undef ρ h w L undef_VR i.hr (.refl _ _ _ _) (fun _ h => h) e1⟩
    | true =>
      rw [if_pos rfl]
      have e2 : (compOp E e.2.op).g r tm h (fun v h => (put n e.2.dst).f tm v fun tm => (agains E (aheads ops.toList []) ops.toList e (e :: ran) ran).g r tm h (k tm h)) = some L := e1
      rw [ha.comp] at e2
      refine op_wp ok qs fr e2 ht i.hr fun v' w' hv => ?_
      obtain ⟨v, ρ', h', L', q1, q2, q3, q4, q5⟩ := hv
      exact key v v' ρ' h' w' L' q1 q2 q3 q5 q4

/-! ### The whole region -/

theorem draw_cons {ah : List Nat} {l : List Oper} {x : Nat × Oper} {xs ran : List (Nat × Oper)} {r : FR} {tm : Tm} {h : Heap} {k : Tm → Heap → R} : (drawSteps E n ah l (x :: xs) ran).g r tm h k =
    if kindOf E x.2.op = 3 then (step1 E n l x.2).g r tm h (fun tm h => (agains E ah l x (x :: ran) ran).g r tm h ((drawSteps E n ah l xs (x :: ran)).g r tm h k))
    else (step1 E n l x.2).g r tm h (fun tm h => (drawSteps E n ah l xs (x :: ran)).g r tm h k) := by
  by_cases hk : kindOf E x.2.op = 3
  · rw [if_pos hk]
    have hb : Nat.beq (kindOf E x.2.op) 3 = true := by rw [hk]; rfl
    show (bif Nat.beq (kindOf E x.2.op) 3 then (match step1 E n l x.2, agains E ah l x (x :: ran) ran, drawSteps E n ah l xs (x :: ran) with
      | ⟨f⟩, ⟨c⟩, ⟨g⟩ => (⟨fun r tm h k => f r tm h fun tm h => c r tm h (g r tm h k)⟩ : COps)) else chain (step1 E n l x.2) (drawSteps E n ah l xs (x :: ran))).g r tm h k = _
    rw [hb]
    rfl
  · rw [if_neg hk]
    have hb : Nat.beq (kindOf E x.2.op) 3 = false := by
      cases hb : Nat.beq (kindOf E x.2.op) 3 with
      | false => rfl
      | true => exact absurd (Nat.eq_of_beq_eq_true hb) hk
    show (bif Nat.beq (kindOf E x.2.op) 3 then (match step1 E n l x.2, agains E ah l x (x :: ran) ran, drawSteps E n ah l xs (x :: ran) with
      | ⟨f⟩, ⟨c⟩, ⟨g⟩ => (⟨fun r tm h k => f r tm h fun tm h => c r tm h (g r tm h k)⟩ : COps)) else chain (step1 E n l x.2) (drawSteps E n ah l xs (x :: ran))).g r tm h k = _
    rw [hb]
    rfl
theorem Inv.advAll (ok : EnvOk P E) (qs : EqsOk P E) {r : FR} (of : OrdF E ops.toList ord) {k : Tm → Heap → R} {L : List (FV × Heap)} : ∀ (rest ran : List (Nat × Oper)) (tm : Tm) (h : Heap) (nb : Nat → Option Nat), Inv P E ops ord n D tm0 ρ0 h0 w0 S ran rest tm h ρ a w nb →
    (drawSteps E n (aheads ops.toList []) ops.toList rest ran).g r tm h k = some L → ∃ ran' rest' tm' h' nb', Inv P E ops ord n D tm0 ρ0 h0 w0 S ran' rest' tm' h' ρ a w nb' ∧ (drawSteps E n (aheads ops.toList []) ops.toList rest' ran').g r tm' h' k = some L ∧ (rest' = [] ∨ ∃ e xs, rest' = e :: xs ∧ kindOf E e.2.op = 3)
  | [], ran, tm, h, nb, i, e => ⟨ran, [], tm, h, nb, i, e, .inl rfl⟩
  | x :: xs, ran, tm, h, nb, i, e => by
    by_cases hk : kindOf E x.2.op = 3
    · exact ⟨ran, x :: xs, tm, h, nb, i, e, .inr ⟨x, xs, rfl, hk⟩⟩
    · have e' := e
      rw [draw_cons, if_neg hk] at e'
      obtain ⟨tm', h', nb', i', e2⟩ := i.adv ok qs of hk e'
      exact Inv.advAll ok qs of xs (x :: ran) tm' h' nb' i' e2
theorem count_lt {α : Type} {p q : α → Bool} : ∀ {l : List α}, (∀ x ∈ l, p x = true → q x = true) → (∃ x ∈ l, q x = true ∧ p x = false) → (l.filter p).length < (l.filter q).length
  | [], _, ⟨x, hx, _⟩ => by cases hx
  | y :: l, h, ⟨x, hx, h1, h2⟩ => by
    have hle : ∀ l : List α, (∀ x ∈ l, p x = true → q x = true) → (l.filter p).length ≤ (l.filter q).length := by
      intro l
      induction l with
      | nil => intro _; exact Nat.le_refl _
      | cons z l ih =>
        intro h
        have := ih fun x hx => h x (List.mem_cons_of_mem _ hx)
        rw [List.filter_cons, List.filter_cons]
        cases hp : p z with
        | true => rw [h z List.mem_cons_self hp]; simpa using this
        | false =>
          cases q z <;> simp <;> omega
    have hl := hle l fun x hx => h x (List.mem_cons_of_mem _ hx)
    rw [List.filter_cons, List.filter_cons]
    rcases List.mem_cons.1 hx with e | e
    · subst e
      rw [h1, h2]
      simp
      omega
    · have := count_lt (fun x hx => h x (List.mem_cons_of_mem _ hx)) ⟨x, e, h1, h2⟩
      cases hp : p y with
      | true => rw [h y List.mem_cons_self hp]; simpa using this
      | false =>
        cases q y <;> simp <;> omega
theorem first_not {α : Type} (p : α → Prop) : ∀ (l : List α), (∀ x ∈ l, p x) ∨ ∃ pre x post, l = pre ++ x :: post ∧ (∀ y ∈ pre, p y) ∧ ¬ p x
  | [] => .inl fun x hx => by cases hx
  | y :: l => by
    by_cases h : p y
    · rcases first_not p l with g | ⟨pre, x, post, e, g1, g2⟩
      · exact .inl fun x hx => by
          rcases List.mem_cons.1 hx with c | c
          · rw [c]; exact h
          · exact g x c
      · exact .inr ⟨y :: pre, x, post, by rw [e]; rfl, fun z hz => by
          rcases List.mem_cons.1 hz with c | c
          · rw [c]; exact h
          · exact g1 z c, g2⟩
    · exact .inr ⟨[], y, l, rfl, fun z hz => (by cases hz), h⟩
theorem Inv.congrS {S' : Nat → Prop} (hS : ∀ j, S j ↔ S' j) (i : Inv P E ops ord n D tm0 ρ0 h0 w0 S ran rest tm h ρ a w nb) : Inv P E ops ord n D tm0 ρ0 h0 w0 S' ran rest tm h ρ a w nb := by
  have : S = S' := funext fun j => propext (hS j)
  rw [← this]; exact i
/-- What is listed. -/
def Li (listed : Array Bool) (j : Nat) : Prop := listed.getD j false = true
theorem Li_set {listed : Array Bool} {i : Nat} (hi : i < listed.size) (j : Nat) : (Li listed j ∨ j = i) ↔ Li (listed.setIfInBounds i true) j := by
  unfold Li
  simp only [Array.getD_eq_getD_getElem?, Array.getElem?_setIfInBounds]
  by_cases h : i = j
  · subst h; simp [hi]
  · rw [if_neg h]
    constructor
    · rintro (g | g)
      · exact g
      · exact absurd g.symm h
    · exact .inl
theorem draw_any (ok : EnvOk P E) (qs : EqsOk P E) {r : FR} (fr : FRok P E.lo r) (of : OrdF E ops.toList ord) {ro : Option Nat} {m : Nat} {k : Tm → Heap → R} {L0 : List (FV × Heap)} {Q : Exit → Act → World → Prop}
    (hQ : ∀ a' w', RegOut E.lo n D k L0 ρ0 h0 w0 a' w' → Q .normal a' w') : ∀ (fuel : Nat) (listed : Array Bool) (ran rest : List (Nat × Oper)) (tm : Tm) (h : Heap) (ρ : Rho) (a : Act) (w : World) (nb : Nat → Option Nat) (L : List (FV × Heap)),
    listed.size = ops.size → (ord.filter fun x => !listed.getD x.1 false).length ≤ fuel → Inv P E ops ord n D tm0 ρ0 h0 w0 (Li listed) ran rest tm h ρ a w nb → (drawSteps E n (aheads ops.toList []) ops.toList rest ran).g r tm h k = some L → (∀ x ∈ L, x ∈ L0) →
    wpAnyIn (fence ro) m P .any ops Q fuel listed a w := by
  intro fuel
  induction fuel with
  | zero =>
    intro listed ran rest tm h ρ a w nb L hsz hcnt i e hl
    have hall : ∀ x ∈ ord, Li listed x.1 := fun x hx => by
      have h0 : (ord.filter fun x => !listed.getD x.1 false) = [] := List.eq_nil_of_length_eq_zero (by omega)
      have := List.filter_eq_nil_iff.1 h0 x hx
      unfold Li
      simpa using this
    exact finish hsz hall i e hl
  | succ fuel ih =>
    intro listed ran rest tm h ρ a w nb L hsz hcnt i e hl
    refine ⟨fun hr0 => ?_, fun j hj => ?_⟩
    · rcases first_not (fun x : Nat × Oper => Li listed x.1) ord with hall | ⟨pre, x, post, ho, hp, hn⟩
      · exact (finish hsz hall i e hl).2
      · exfalso
        have hx : x ∈ ord := by rw [ho]; simp
        have hat := of.at' x hx
        have : x.1 ∈ Region.ready .any ops listed := by
          rw [mem_ready]
          have hlt : x.1 < listed.size := by rw [hsz, ← Array.length_toList]; exact (List.getElem?_eq_some_iff.1 hat).1
          refine ⟨?_, x.2, by rw [← Array.getElem?_toList]; exact hat, fun ed hed hb => ?_⟩
          · unfold Li at hn
            simp only [Array.getD_eq_getD_getElem?, Array.getElem?_eq_getElem hlt, Option.getD_some] at hn ⊢
            simpa using hn
          · have h1 := (ahead_iff hat ed.on).2 ⟨ed, by simpa using hed, hb, .inl rfl⟩
            obtain ⟨y, hy, he⟩ := List.mem_map.1 (of.ahead pre x post ho _ h1)
            have := hp y hy
            rw [he] at this
            exact this
        rw [hr0] at this
        cases this
    · obtain ⟨hun, o, ho, hall⟩ := mem_ready.1 hj
      have hlt : j < listed.size := by
        rcases Nat.lt_or_ge j listed.size with c | c
        · exact c
        · simp [Array.getElem?_eq_none c] at hun
      have hnS : ¬ Li listed j := by
        unfold Li
        simp only [Array.getD_eq_getD_getElem?, Array.getElem?_eq_getElem hlt, Option.getD_some] at hun ⊢
        simpa using hun
      have hmem : (j, o) ∈ ord := of.all j o (by rw [Array.getElem?_toList]; exact ho)
      have hrd : ∀ ed ∈ o.after.toList, Region.binds .any ed = true → Li listed ed.on := fun ed hed hb => hall ed (by simpa using hed) hb
      have hcnt' : (ord.filter fun x => !(listed.setIfInBounds j true).getD x.1 false).length ≤ fuel := by
        have hlt2 := count_lt (l := ord) (p := fun x => !(listed.setIfInBounds j true).getD x.1 false) (q := fun x => !listed.getD x.1 false) (fun x _ hp => by
          have hs := Li_set hlt x.1
          unfold Li at hs
          cases hb : listed.getD x.1 false with
          | false => rfl
          | true =>
            have := hs.1 (.inl hb)
            simp only [this] at hp
            cases hp) ⟨(j, o), hmem, by
              unfold Li at hnS
              simpa using hnS, by
              have hs := (Li_set hlt j).1 (.inr rfl)
              unfold Li at hs
              simp only [hs]
              rfl⟩
        omega
      obtain ⟨ran', rest', tm', h', nb', i', e', hrest⟩ := i.advAll ok qs of rest ran tm h nb e
      rcases i'.mem.1 hmem with hin | hin
      · exact i'.pendStep of hin hnS hrd fun ρ2 a2 w2 i2 => ih _ ran' rest' tm' h' ρ2 a2 w2 nb' L (by simpa using hsz) hcnt' (i2.congrS (Li_set hlt)) e' hl
      · rcases hrest with hrest | ⟨x, xs, hrest, hk⟩
        · rw [hrest] at hin; cases hin
        · subst hrest
          rcases List.mem_cons.1 hin with c | c
          · subst c
            rw [draw_cons, if_pos hk] at e'
            refine i'.effStep ok qs fr of hrd e' fun ρ2 a2 w2 tm2 h2 L2 i2 e2 hl2 => ?_
            exact ih _ _ xs tm2 h2 ρ2 a2 w2 nb' L2 (by simpa using hsz) hcnt' (i2.congrS (Li_set hlt)) e2 fun x hx => hl x (hl2 x hx)
          · exfalso
            have h1 := of.eff ran'.reverse x xs i'.oeq hk (j, o) c
            have h2 := i'.aheadS of hmem hrd _ h1
            obtain ⟨y, hy, he⟩ := List.mem_map.1 (i'.sub _ h2)
            exact (i'.dst_step of hy).1 he
 where
  finish {listed : Array Bool} {ran rest : List (Nat × Oper)} {tm : Tm} {h : Heap} {ρ : Rho} {a : Act} {w : World} {nb : Nat → Option Nat} {L : List (FV × Heap)}
      (hsz : listed.size = ops.size) (hall : ∀ x ∈ ord, Li listed x.1) (i : Inv P E ops ord n D tm0 ρ0 h0 w0 (Li listed) ran rest tm h ρ a w nb) (e : (drawSteps E n (aheads ops.toList []) ops.toList rest ran).g r tm h k = some L) (hl : ∀ x ∈ L, x ∈ L0) :
      Region.ready .any ops listed = [] ∧ Q .normal a w := by
    refine ⟨?_, ?_⟩
    · apply List.eq_nil_iff_forall_not_mem.2
      intro j hj
      obtain ⟨hun, o, ho, _⟩ := mem_ready.1 hj
      have := hall _ (of.all j o (by rw [Array.getElem?_toList]; exact ho))
      unfold Li at this
      rcases Nat.lt_or_ge j listed.size with c | c
      · simp only [Array.getD_eq_getD_getElem?, Array.getElem?_eq_getElem c, Option.getD_some] at hun this
        rw [hun] at this; cases this
      · simp [Array.getElem?_eq_none c] at hun
    · have hrest : rest = [] := by
        cases rest with
        | nil => rfl
        | cons x xs =>
          have hx : x ∈ ord := i.mem.2 (.inr List.mem_cons_self)
          obtain ⟨y, hy, he⟩ := List.mem_map.1 (i.sub _ (hall x hx))
          exact absurd he (i.dst_step of hy).1
      subst hrest
      refine hQ a w ⟨tm, ρ, h, L, ⟨i.g, fun t ht => ?_⟩, i.size, i.defers, i.hr, i.ext, e, hl⟩
      by_cases c : ∃ z ∈ ord, z.2.dst = some t
      · obtain ⟨z, z1, z2⟩ := c
        exact (i.r1 t ht).1 z z1 z2 (hall z z1)
      · rw [i.t1 t ht fun y hy hd => c ⟨y, i.mem.2 (.inl hy), hd⟩]
        exact (i.r1 t ht).2 fun z z1 z2 => absurd ⟨z, z1, z2⟩ c
/-- A region that draws its order. -/
theorem drawOps_wp (ok : EnvOk P E) (qs : EqsOk P E) {r : FR} (fr : FRok P E.lo r) {ro : Option Nat} {m : Nat} {id : Nat} {k : Tm → Heap → R} {Q : Exit → Act → World → Prop} {tm : Tm} {h : Heap} {L : List (FV × Heap)} (e : (drawOps E n ops.toList).g r tm h k = some L)
    {ρ : Rho} {a : Act} {w : World} (ht : TR ρ tm a.tmps) (hn : a.tmps.size = n) (hr : HR ρ h w) (hQ : ∀ a' w', RegOut E.lo n a.defers k L ρ h w a' w' → Q .normal a' w') : (Code.region id ops true).wpIn (fence ro) m P Q a w := by
  have e1 : (bif Nat.beq (asap E (aheads ops.toList []) ops.toList ops.toList.length 0).length ops.toList.length && dstsOk (aheads ops.toList []) ops.toList (asap E (aheads ops.toList []) ops.toList ops.toList.length 0) && effsOk E (aheads ops.toList []) (asap E (aheads ops.toList []) ops.toList ops.toList.length 0)
      then drawSteps E n (aheads ops.toList []) ops.toList (asap E (aheads ops.toList []) ops.toList ops.toList.length 0) [] else ⟨fun _ _ _ _ => none⟩ : COps).g r tm h k = some L := e
  cases hc : (Nat.beq (asap E (aheads ops.toList []) ops.toList ops.toList.length 0).length ops.toList.length && dstsOk (aheads ops.toList []) ops.toList (asap E (aheads ops.toList []) ops.toList ops.toList.length 0) && effsOk E (aheads ops.toList []) (asap E (aheads ops.toList []) ops.toList ops.toList.length 0)) with
  | false => rw [hc, cond_false] at e1; cases e1
  | true =>
    rw [hc, cond_true] at e1
    obtain ⟨c1, c2⟩ := and_true' hc
    obtain ⟨c3, c4⟩ := and_true' c1
    have of := ord_ok (E := E) (Nat.eq_of_beq_eq_true c3) c4 c2
    have hlen := Nat.eq_of_beq_eq_true c3
    generalize asap E (aheads ops.toList []) ops.toList ops.toList.length 0 = ord at *
    have hli : ∀ j, ¬ Li (Array.replicate ops.size false) j := fun j => by
      unfold Li
      simp only [Array.getD_eq_getD_getElem?, Array.getElem?_replicate]
      split <;> simp
    refine wpIn_region_any ok.mixed ?_
    refine draw_any (D := a.defers) (tm0 := tm) (ρ0 := ρ) (h0 := h) (w0 := { w with drawn := w.drawn + 1 }) ok qs fr of (fun a' w' ho => hQ a' w' ?_) ops.size _ [] ord tm h ρ a _ (fun _ => none) L (by simp) ?_ ?_ e1 fun _ h => h
    · obtain ⟨tm', ρ', h', L', q1, q2, q3, q4, q5, q6, q7⟩ := ho
      exact ⟨tm', ρ', h', L', q1, q2, q3, q4, (Ext.drew _).trans q5, q6, q7⟩
    · have := List.length_filter_le (fun x : Nat × Oper => !(Array.replicate ops.size false).getD x.1 false) ord
      rw [hlen, Array.length_toList] at this
      exact this
    · refine ⟨rfl, fun i o _ hs => absurd hs (hli i), fun i hs => absurd hs (hli i), fun x hx => (by cases hx), fun _ _ _ => rfl, ht.g, fun t htm => ⟨fun z _ _ hs => absurd hs (hli _), fun _ => ht.t t htm⟩, hn, rfl, hr.congr rfl, .refl _ _ _ _, fun x hx => (by cases hx), fun i j m hi => (by cases hi), fun i m hi => (by cases hi)⟩
end
end Go.FX
