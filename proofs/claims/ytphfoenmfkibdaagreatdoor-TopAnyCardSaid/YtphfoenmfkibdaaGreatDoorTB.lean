/- slices.Insert at this program, by contract. -/
import Derived.Test.YtphfoenmfkibdaaGreatDoorProg
import Derived.Shelf.Spec.SlicesInsertGrow
import Derived.Test.YtphfoenmfkibdaaGreatDoorTA
set_option linter.unusedSectionVars false
set_option linter.unusedVariables false
set_option linter.unusedSimpArgs false
set_option maxRecDepth 1000000
namespace Go.FX
open Go.Proofs Go.RowKit Go.Lib
/-- 'copy', for elements of whatever size. -/
theorem run_copy_gen {P : Program} (w : World) (dT sT ty elem : TypeId) (z : Nat) (b o dLen dCap : Nat) (a : Addr) (sLen sCap : Nat) (cs : List Value)
    (hu : P.underlying dT = some (.slice elem)) (hs : (P.info? elem).map (·.size) = some z) (hn : cs.length = Nat.min sLen dLen * z)
    (hsrc : ∀ j v, cs[j]? = some v → w.cell? (a.add j) = some v) (hc : ∀ j, j < cs.length → (w.cell? ⟨b, o + j, none⟩).isSome = true) (hf : ∀ j, j < cs.length → w.frozen? ⟨b, o + j, none⟩ = false) (h1 : ∀ v ∈ cs, v.oneCell' = true) :
    (Builtin.copy_ #[dT, sT] ty #[.slice (some ⟨b, o, none⟩) dLen dCap, .slice (some a) sLen sCap]).run P w = .ok (goInt (Nat.min sLen dLen)) (w.setCells b o cs) := by
  have hl := run_loadCells_list (P := P) w a cs hsrc
  have hst := run_storeCells_cells (P := P) b o cs 0 w (by simpa using hc) (by simpa using hf) h1
  cases hq : P.info? elem with
  | none => simp [hq] at hs
  | some i =>
    have hi : i.size = z := by simpa [hq] using hs
    simp [Builtin.copy_, run_underlying hu, Builtin.lenOf, Builtin.firstCells, sizeOf, typeInfo, hq, hi, ← hn, hl, hst]
theorem info149 : ∃ i, Tryz.prog.info? 149 = some i ∧ i.zero = some (.agg #[.int .i64 0, .int .i64 0]) ∧ i.size = 2 ∧ i.bytes = 16 := ⟨_, rfl, rfl, rfl, rfl⟩
set_option maxHeartbeats 4000000 in
set_option maxRecDepth 100000 in
/-- slices.Insert of a way: there is room, ahead of the end. -/
theorem ins_shift (b off n c i vb voff m vc : Nat) (cs vs : List Value) (w : World) (hi : i < n) (hm : 0 < m) (hroom : n + m ≤ c) (hc63 : n + m ≤ 1000) (hvb : vb ≠ b)
    (hcl : cs.length = n * 2) (hvl : vs.length = m * 2)
    (hcs : ∀ j v, cs[j]? = some v → w.cell? ⟨b, off + j, none⟩ = some v) (hsp : ∀ j, j < (n + m) * 2 → (w.cell? ⟨b, off + j, none⟩).isSome = true) (hfz : ∀ j, j < (n + m) * 2 → w.frozen? ⟨b, off + j, none⟩ = false)
    (hvs : ∀ j v, vs[j]? = some v → w.cell? ⟨vb, voff + j, none⟩ = some v) (h1c : ∀ v ∈ cs, v.oneCell' = true) (h1v : ∀ v ∈ vs, v.oneCell' = true)
    (tA tB : TypeId) (kA kB : Nat) (hsa : w.shape? vb = some (tA, kA)) (hsb : w.shape? b = some (tB, kB)) (hkB : kB ≠ 0) (hfa : w.frozen? ⟨vb, voff, none⟩ = false) (hfe : w.frozen? ⟨vb, kA, none⟩ = false) :
    Calls Tryz.prog 147 #[.slice (some ⟨b, off, none⟩) n c, .int .i64 i, .slice (some ⟨vb, voff, none⟩) m vc] w fun e w' =>
      e = .returned (.slice (some ⟨b, off, none⟩) (n + m) c) ∧ w' = (w.drew.setCells b (off + (i + m) * 2) (cs.drop (i * 2))).setCells b (off + i * 2) vs := by
  have hz1 : ¬ ((m : Int) = 0) := by omega
  have hz2 : ¬ ((i : Int) = (n : Int)) := by omega
  obtain ⟨i0, hi0, hzz, hzs, hzb⟩ := info149
  have hsz : (Tryz.prog.info? 149).map (·.size) = some 2 := by rw [hi0]; simp [hzs]
  have hov : ∀ lb cb, (callFunc 180 #[.slice (some ⟨vb, voff, none⟩) m vc, .slice (some ⟨b, off + (i + m) * 2, none⟩) lb cb]).run Tryz.prog w = .ok (.value (.bool false)) w := fun lb cb => by
    rw [run_callFunc_extern Tryz.func180 (by kernel_rfl) (by kernel_rfl) (by kernel_rfl) (e := Extern.SlicesOverlaps.overlaps #[93, 93] #[4]) (by kernel_rfl),
      Lib.run_overlaps_apart w 93 4 149 Tryz.underlying93 2 (fun w => by have := run_sizeOf w hi0; rw [show Tryz.prog.cellsOf 149 = 2 by unfold Program.cellsOf; rw [hsz]; rfl] at this; exact this) ⟨vb, voff, none⟩ ⟨b, off + (i + m) * 2, none⟩ m vc lb cb hvb tA tB kA kB hsa hsb hkB hfa hfe]
    rfl
  have hdl : (cs.drop (i * 2)).length = (n - i) * 2 := by rw [List.length_drop, hcl]; omega
  have mixed : Tryz.prog.follows .mixedOrders = true := by kernel_rfl
  have hw1 : IntKind.i64.wrap ((i : Int) + (m : Int)) = (i : Int) + (m : Int) := by rw [IntKind.wrap_i64]; omega
  have hb1 : (0 : Int) ≤ (i : Int) + (m : Int) := by omega
  have hin : i ≤ n := by omega
  have htn : ((i : Int) + (m : Int)).toNat = i + m := by omega
  have hb2 : ¬ (c = i + m) := by omega
  have hb3 : (i : Int) ≤ (n : Int) + (m : Int) := by omega
  have hb4 : ¬ (c = i) := by omega
  have hmin1 : Nat.min (n + m - i) (n + m - (i + m)) = n - i := by simp only [Nat.min_def]; split <;> omega
  have hmin2 : Nat.min m (n + m - i) = m := by simp only [Nat.min_def]; split <;> omega
  have hcp1 : ∀ ty dc sc, (Builtin.copy_ #[93, 93] ty #[.slice (some ⟨b, off + (i + m) * 2, none⟩) (n + m - (i + m)) dc, .slice (some ⟨b, off + i * 2, none⟩) (n + m - i) sc]).run Tryz.prog w.drew = .ok (goInt (n - i : Nat)) (w.drew.setCells b (off + (i + m) * 2) (cs.drop (i * 2))) := fun ty dc sc => by
    have h := run_copy_gen w.drew 93 93 ty 149 2 b (off + (i + m) * 2) (n + m - (i + m)) dc ⟨b, off + i * 2, none⟩ (n + m - i) sc (cs.drop (i * 2)) Tryz.underlying93 hsz (by rw [hdl, hmin1])
      (fun j v hj => by rw [Addr.add_lit, Nat.add_assoc]; exact hcs (i * 2 + j) v (by rwa [List.getElem?_drop] at hj))
      (fun j hj => by rw [Nat.add_assoc]; exact hsp _ (by omega)) (fun j hj => by rw [Nat.add_assoc]; exact hfz _ (by omega)) (fun v hv => h1c v (List.mem_of_mem_drop hv))
    rw [hmin1] at h
    exact h
  obtain ⟨W1, hW1⟩ : ∃ W1, W1 = w.drew.setCells b (off + (i + m) * 2) (cs.drop (i * 2)) := ⟨_, rfl⟩
  have hsp1 : ∀ k, k < (n + m) * 2 → (W1.cell? ⟨b, off + k, none⟩).isSome = true := fun k hk => by
    rw [hW1]
    exact isSome_setCells b _ _ _ (fun j hj => by rw [Nat.add_assoc]; exact hsp _ (by omega)) _ (hsp k hk)
  have hcp2 : ∀ (W : World), (∀ x, W.cell? x = W1.cell? x) → (∀ x, W.frozen? x = W1.frozen? x) → ∀ ty dc, (Builtin.copy_ #[93, 93] ty #[.slice (some ⟨b, off + i * 2, none⟩) (n + m - i) dc, .slice (some ⟨vb, voff, none⟩) m vc]).run Tryz.prog W = .ok (goInt m) (W.setCells b (off + i * 2) vs) := fun W hWc hWf ty dc => by
    have h := run_copy_gen W 93 93 ty 149 2 b (off + i * 2) (n + m - i) dc ⟨vb, voff, none⟩ m vc vs Tryz.underlying93 hsz (by rw [hvl, hmin2])
      (fun j v hj => by
        rw [Addr.add_lit, hWc, hW1, World.cell?_setCells_out b _ _ _ _ (fun h _ => absurd h hvb)]
        exact hvs j v hj)
      (fun j hj => by rw [hWc, Nat.add_assoc]; exact hsp1 _ (by omega)) (fun j hj => by rw [hWf, hW1, World.frozen?_setCells, Nat.add_assoc]; exact hfz _ (by omega)) h1v
    rw [hmin2] at h
    exact h
  rw [← hW1] at hcp1
  go_enter Tryz.func147, Tryz.ntmps147
  go_wp2_with (simp only [hov])
  go_region_law_o (refine step_copy_runI rfl _ _ 93 93 rfl _ _ (by simp [Act.eval, Act.put]) (by simp [Act.eval, Act.put]) (hcp1 _ _ _) ?_)
  go_wp2_with (at_builtin; refine wpList_copy_runI _ rfl _ _ 93 93 rfl _ _ rfl rfl (hcp2 _ (fun _ => rfl) (fun _ => rfl) _ _) ?_)
  go_ret
  first | exact ⟨rfl, rfl⟩ | exact ⟨rfl, by rw [hW1]⟩
set_option maxHeartbeats 4000000 in
set_option maxRecDepth 100000 in
/-- .. at the end, and there is room. -/
theorem ins_end_room (b off n c vb voff m vc : Nat) (vs : List Value) (w : World) (hm : 0 < m) (hroom : n + m ≤ c) (hc63 : n + m ≤ 1000)
    (hvl : vs.length = m * 2) (hsp : ∀ j, j < m * 2 → (w.cell? ⟨b, off + n * 2 + j, none⟩).isSome = true) (hfz : ∀ j, j < m * 2 → w.frozen? ⟨b, off + n * 2 + j, none⟩ = false)
    (hvs : ∀ j v, vs[j]? = some v → w.cell? ⟨vb, voff + j, none⟩ = some v) (h1v : ∀ v ∈ vs, v.oneCell' = true) :
    Calls Tryz.prog 147 #[.slice (some ⟨b, off, none⟩) n c, .int .i64 n, .slice (some ⟨vb, voff, none⟩) m vc] w fun e w' =>
      e = .returned (.slice (some ⟨b, off, none⟩) (n + m) c) ∧ w' = w.setCells b (off + n * 2) vs := by
  have hz1 : ¬ ((m : Int) = 0) := by omega
  obtain ⟨i0, hi0, hzz, hzs, hzb⟩ := info149
  have hsrc : Src Tryz.prog i0.size 93 (.slice (some ⟨vb, voff, none⟩) m vc) m vs w := by
    rw [hzs]
    exact Src.ofSlice w Tryz.underlying93 ⟨vb, voff, none⟩ m vc vs (by omega) (fun j u hj => by rw [Addr.add_lit]; exact hvs j u hj) h1v
  have hrun : ∀ ty, (Builtin.append_ #[93, 93] ty #[.slice (some ⟨b, off, none⟩) n c, .slice (some ⟨vb, voff, none⟩) m vc]).run Tryz.prog w = .ok (.slice (some ⟨b, off, none⟩) (n + m) c) (w.setCells b (off + n * 2) vs) := fun ty => by
    have h := run_append_room_src w 93 93 ty 149 i0 Tryz.underlying93 hi0 b off n c _ m vs hsrc hroom (by rw [hzs, hvl]; exact hsp) (by rw [hzs, hvl]; exact hfz)
    rw [hzs] at h
    exact h
  go_enter Tryz.func147, Tryz.ntmps147
  go_wp2_with (at_builtin; refine Lib.wpList_append_run _ rfl _ _ _ _ rfl _ _ rfl rfl _ _ (hrun _) ?_)
  go_ret
  exact ⟨rfl, rfl⟩
/-- The zero cells of a way. -/
def zeroWay (k : Nat) : Array Value := Builtin.zeroCells (Value.agg #[.int .i64 0, .int .i64 0]).cells k
set_option maxHeartbeats 4000000 in
set_option maxRecDepth 100000 in
/-- .. at the end, and there is none. -/
theorem ins_end_grow (base : Option Addr) (n c vb voff m vc : Nat) (cs vs : List Value) (w : World) (hm : 0 < m) (hnc : n ≤ c) (hroom : c < n + m) (hbig : (n + m) * 16 ≤ 140737488355328)
    (hcl : cs.length = n * 2) (hvl : vs.length = m * 2) (hnil : base = none → n = 0)
    (hcs : ∀ a, base = some a → ∀ j v, cs[j]? = some v → w.cell? (a.add j) = some v)
    (hvs : ∀ j v, vs[j]? = some v → w.cell? ⟨vb, voff + j, none⟩ = some v) (h1v : ∀ v ∈ vs, v.oneCell' = true) :
    Calls Tryz.prog 147 #[.slice base n c, .int .i64 n, .slice (some ⟨vb, voff, none⟩) m vc] w fun e w' =>
      e = .returned (.slice (some ⟨w.heap.size, 0, none⟩) (n + m) (grownCap w (n + m) c 149)) ∧
      w' = w.drew.alloc (.cells ((cs ++ vs).toArray ++ zeroWay (grownCap w (n + m) c 149 - (n + m))) 149) := by
  have mixed : Tryz.prog.follows .mixedOrders = true := by kernel_rfl
  obtain ⟨i0, hi0, hzz, hzs, hzb⟩ := info149
  have hz1 : ¬ ((m : Int) = 0) := by omega
  have hsrc : Src Tryz.prog i0.size 93 (.slice (some ⟨vb, voff, none⟩) m vc) m vs w := by
    rw [hzs]
    exact Src.ofSlice w Tryz.underlying93 ⟨vb, voff, none⟩ m vc vs (by omega) (fun j u hj => by rw [Addr.add_lit]; exact hvs j u hj) h1v
  have hold : (Builtin.firstCells i0.size n (.slice base n c)).run Tryz.prog w.drew = .ok cs.toArray w.drew := by
    rw [hzs]
    cases base with
    | none =>
      have h0 := hnil rfl
      subst h0
      rw [List.length_eq_zero_iff.1 (by omega : cs.length = 0)]
      exact run_firstCells_none w.drew 2 0 0 c
    | some a => exact run_firstCells_some w.drew 2 n a n c cs (by omega) (fun j v hj => hcs a rfl j v hj)
  have hrun : ∀ ty, (Builtin.append_ #[93, 93] ty #[.slice base n c, .slice (some ⟨vb, voff, none⟩) m vc]).run Tryz.prog w = _ := fun ty =>
    run_append_grow_src w 93 93 ty 149 i0 _ Tryz.underlying93 hi0 hzz base n c cs hold _ m vs hsrc hroom (by omega) (by rw [hzb]; exact growslice_fits hroom hbig)
  go_enter Tryz.func147, Tryz.ntmps147
  cases base with
  | none =>
    have h0 := hnil rfl
    subst h0
    go_wp2_with (at_builtin; refine Lib.wpList_append_run _ rfl _ _ _ _ rfl _ _ rfl rfl _ _ (hrun _) ?_)
    go_ret
    exact ⟨rfl, rfl⟩
  | some a =>
    obtain ⟨ab, ao, asp⟩ := a
    go_wp2_with (at_builtin; refine Lib.wpList_append_run _ rfl _ _ _ _ rfl _ _ rfl rfl _ _ (hrun _) ?_)
    all_goals (go_ret; exact ⟨rfl, rfl⟩)
set_option maxHeartbeats 4000000 in
set_option maxRecDepth 100000 in
/-- .. ahead of the end, and there is none. -/
theorem ins_grow (b off n c i vb voff m vc : Nat) (cs vs : List Value) (w : World) (hi : i < n) (hm : 0 < m) (hnc : n ≤ c) (hroom : c < n + m) (hbig : (n + m) * 16 ≤ 140737488355328)
    (hcl : cs.length = n * 2) (hvl : vs.length = m * 2)
    (hcs : ∀ j v, cs[j]? = some v → w.cell? ⟨b, off + j, none⟩ = some v)
    (hvs : ∀ j v, vs[j]? = some v → w.cell? ⟨vb, voff + j, none⟩ = some v) (h1c : ∀ v ∈ cs, v.oneCell' = true) (h1v : ∀ v ∈ vs, v.oneCell' = true) :
    Calls Tryz.prog 147 #[.slice (some ⟨b, off, none⟩) n c, .int .i64 i, .slice (some ⟨vb, voff, none⟩) m vc] w fun e w' =>
      e = .returned (.slice (some ⟨w.heap.size, 0, none⟩) (n + m) (grownCap w (n + m) c 149)) ∧
      w' = (((w.alloc (.cells ((cs.take (i * 2)).toArray ++ zeroWay (n + m - i) ++ zeroWay (grownCap w (n + m) c 149 - (n + m))) 149)).drew.setCells w.heap.size (i * 2) vs).drew).setCells w.heap.size ((i + m) * 2) (cs.drop (i * 2)) := by
  have mixed : Tryz.prog.follows .mixedOrders = true := by kernel_rfl
  obtain ⟨i0, hi0, hzz, hzs, hzb⟩ := info149
  have hz1 : ¬ ((m : Int) = 0) := by omega
  have hz2 : ¬ ((i : Int) = (n : Int)) := by omega
  have hz3 : (c : Int) < (n : Int) + (m : Int) := by omega
  have hsz : (Tryz.prog.info? 149).map (·.size) = some 2 := by rw [hi0]; simp [hzs]
  have hbw : b < w.heap.size := block_lt_of_cell (hcs 0 _ (List.getElem?_eq_getElem (by omega)))
  have hvw : vb < w.heap.size := block_lt_of_cell (hvs 0 _ (List.getElem?_eq_getElem (by omega)))
  have hkk : (n : Int) + (m : Int) - (i : Int) = ((n + m - i : Nat) : Int) := by omega
  have hik : i + (n + m - i) = n + m := by omega
  have hold : (Builtin.firstCells i0.size i (.slice (some ⟨b, off, none⟩) i c)).run Tryz.prog w.drew = .ok (cs.take (i * 2)).toArray w.drew := by
    rw [hzs]
    exact run_firstCells_some w.drew 2 i ⟨b, off, none⟩ i c (cs.take (i * 2)) (by rw [List.length_take]; omega) (fun j v hj => by
      rw [Addr.add_lit]
      rw [List.getElem?_take] at hj
      split at hj
      · exact hcs j v hj
      · cases hj)
  have hrz : ∀ ty, (Builtin.append_ #[93, 3] ty #[.slice (some ⟨b, off, none⟩) i c, .int .i64 ((n : Int) + (m : Int) - (i : Int))]).run Tryz.prog w =
      .ok (.slice (some ⟨w.heap.size, 0, none⟩) (n + m) (grownCap w (n + m) c 149)) (w.drew.alloc (.cells ((cs.take (i * 2)).toArray ++ zeroWay (n + m - i) ++ zeroWay (grownCap w (n + m) c 149 - (n + m))) 149)) := fun ty => by
    have h := Lib.run_append_grow_zeros w 93 3 ty 149 i0 _ .i64 .i64 Tryz.underlying93 Tryz.underlying3 hi0 hzz (some ⟨b, off, none⟩) i c (cs.take (i * 2)) hold (n + m - i) (by omega) (by omega) (by omega) (by omega) (by rw [hzb]; omega) (by rw [hzb, hik]; exact growslice_fits hroom hbig)
    rw [hik] at h
    rw [hkk]
    exact h
  obtain ⟨G, hG⟩ : ∃ G, G = grownCap w (n + m) c 149 := ⟨_, rfl⟩
  obtain ⟨ROW, hROW⟩ : ∃ ROW : Array Value, ROW = (cs.take (i * 2)).toArray ++ zeroWay (n + m - i) ++ zeroWay (G - (n + m)) := ⟨_, rfl⟩
  rw [← hG] at hrz ⊢
  rw [← hROW] at hrz ⊢
  have hRl : (n + m) * 2 ≤ ROW.size := by
    rw [hROW]
    simp [zeroWay, Builtin.zeroCells, Value.cells]
    omega
  obtain ⟨W1, hW1⟩ : ∃ W1, W1 = w.drew.alloc (.cells ROW 149) := ⟨_, rfl⟩
  rw [← hW1] at hrz
  have hN : ∀ j, j < (n + m) * 2 → (W1.cell? ⟨w.heap.size, j, none⟩).isSome = true := fun j hj => by
    rw [hW1, World.cell?_alloc_at (w := w.drew) ROW _ w.heap.size j rfl, Array.getElem?_eq_getElem (by omega)]; rfl
  have hNf : ∀ j, W1.frozen? ⟨w.heap.size, j, none⟩ = false := fun j => by rw [hW1]; exact World.frozen?_alloc_at (w := w.drew) ROW _ w.heap.size j rfl
  have hOb : ∀ j v, w.cell? ⟨b, j, none⟩ = some v → W1.cell? ⟨b, j, none⟩ = some v := fun j v h => by rw [hW1, World.cell?_alloc_past (w := w.drew) _ b j hbw]; exact h
  have hOv : ∀ j v, w.cell? ⟨vb, j, none⟩ = some v → W1.cell? ⟨vb, j, none⟩ = some v := fun j v h => by rw [hW1, World.cell?_alloc_past (w := w.drew) _ vb j hvw]; exact h
  have hmin1 : Nat.min (n - i) (n + m - (i + m)) = n - i := by simp only [Nat.min_def]; split <;> omega
  have hmin2 : Nat.min m (n + m - i) = m := by simp only [Nat.min_def]; split <;> omega
  have hcpA : ∀ (W : World), (∀ x, W.cell? x = W1.cell? x) → (∀ x, W.frozen? x = W1.frozen? x) → ∀ ty dc, (Builtin.copy_ #[93, 93] ty #[.slice (some ⟨w.heap.size, i * 2, none⟩) (n + m - i) dc, .slice (some ⟨vb, voff, none⟩) m vc]).run Tryz.prog W = .ok (goInt m) (W.setCells w.heap.size (i * 2) vs) := fun W hWc hWf ty dc => by
    have h := run_copy_gen W 93 93 ty 149 2 w.heap.size (i * 2) (n + m - i) dc ⟨vb, voff, none⟩ m vc vs Tryz.underlying93 hsz (by rw [hvl, hmin2])
      (fun j v hj => by rw [Addr.add_lit, hWc]; exact hOv _ v (hvs j v hj))
      (fun j hj => by rw [hWc]; exact hN _ (by omega)) (fun j hj => by rw [hWf]; exact hNf _) h1v
    rw [hmin2] at h
    exact h
  have hGn : n + m ≤ G := by rw [hG]; exact grownCap_ge w _ _ _
  have hG63 : G ≤ 9223372036854775807 := by
    have := grownCap_le_maxLen w (n + m) c 149 (by unfold maxLen; omega)
    rw [← hG] at this
    unfold maxLen at this
    omega
  have hGi : ¬ (G = i) := by omega
  have hGim : ¬ (G = i + m) := by omega
  have hci : ¬ (c = i) := by omega
  have hbN : b ≠ w.heap.size := by omega
  have hdl : (cs.drop (i * 2)).length = (n - i) * 2 := by rw [List.length_drop, hcl]; omega
  have hcpB : ∀ (W : World), (∀ x, W.cell? x = (W1.setCells w.heap.size (i * 2) vs).cell? x) → (∀ x, W.frozen? x = (W1.setCells w.heap.size (i * 2) vs).frozen? x) → ∀ ty dc sc, (Builtin.copy_ #[93, 93] ty #[.slice (some ⟨w.heap.size, (i + m) * 2, none⟩) (n + m - (i + m)) dc, .slice (some ⟨b, off + i * 2, none⟩) (n - i) sc]).run Tryz.prog W = .ok (goInt (n - i : Nat)) (W.setCells w.heap.size ((i + m) * 2) (cs.drop (i * 2))) := fun W hWc hWf ty dc sc => by
    have h := run_copy_gen W 93 93 ty 149 2 w.heap.size ((i + m) * 2) (n + m - (i + m)) dc ⟨b, off + i * 2, none⟩ (n - i) sc (cs.drop (i * 2)) Tryz.underlying93 hsz (by rw [hdl, hmin1])
      (fun j v hj => by
        rw [Addr.add_lit, hWc, World.cell?_setCells_out _ _ _ _ _ (fun h _ => absurd h hbN), Nat.add_assoc]
        exact hOb _ v (hcs (i * 2 + j) v (by rwa [List.getElem?_drop] at hj)))
      (fun j hj => by rw [hWc]; exact isSome_setCells _ _ _ _ (fun t ht => hN _ (by omega)) _ (hN _ (by omega)))
      (fun j hj => by rw [hWf, World.frozen?_setCells]; exact hNf _) (fun v hv => h1c v (List.mem_of_mem_drop hv))
    rw [hmin1] at h
    exact h
  subst hW1
  have hE1 : ∀ x, ((w.alloc (.cells ROW 149)).drew).cell? x = (w.drew.alloc (.cells ROW 149)).cell? x := fun x => rfl
  have hE2 : ∀ x, ((w.alloc (.cells ROW 149)).drew).frozen? x = (w.drew.alloc (.cells ROW 149)).frozen? x := fun x => rfl
  have hF1 : ∀ x, (((w.alloc (.cells ROW 149)).drew.setCells w.heap.size (i * 2) vs).drew).cell? x = ((w.drew.alloc (.cells ROW 149)).setCells w.heap.size (i * 2) vs).cell? x := fun x => rfl
  have hF2 : ∀ x, (((w.alloc (.cells ROW 149)).drew.setCells w.heap.size (i * 2) vs).drew).frozen? x = ((w.drew.alloc (.cells ROW 149)).setCells w.heap.size (i * 2) vs).frozen? x := fun x => rfl
  have hw1 : IntKind.i64.wrap ((i : Int) + (m : Int)) = (i : Int) + (m : Int) := by rw [IntKind.wrap_i64]; omega
  have hb1 : (0 : Int) ≤ (i : Int) + (m : Int) := by omega
  have hin : i ≤ n := by omega
  have htn : ((i : Int) + (m : Int)).toNat = i + m := by omega
  have hb3 : (i : Int) ≤ (n : Int) := by omega
  clear hkk hik hold hROW hG hRl
  go_enter Tryz.func147, Tryz.ntmps147
  go_wp2_with (first
    | (at_builtin; refine Lib.wpList_append_run _ rfl _ _ _ _ rfl _ _ rfl rfl _ _ (hrz _) ?_)
    | (at_builtin; refine wpList_copy_runI _ rfl _ _ 93 93 rfl _ _ rfl rfl (hcpA _ hE1 hE2 _ _) ?_)
    | (at_builtin; refine wpList_copy_runI _ rfl _ _ 93 93 rfl _ _ rfl rfl (hcpB _ (fun _ => rfl) (fun _ => rfl) _ _ _) ?_))
  go_region_law_o (refine step_copy_runI rfl _ _ 93 93 rfl (.slice (some ⟨w.heap.size, (i + m) * 2, none⟩) (n + m - (i + m)) (G - (i + m))) (.slice (some ⟨b, off + i * 2, none⟩) (n - i) (c - i)) (by simp [Act.eval, Act.put]) (by simp [Act.eval, Act.put]) (hcpB _ hF1 hF2 3 (G - (i + m)) (c - i)) ?_)
  go_wp2
  go_ret
  exact ⟨rfl, rfl⟩
end Go.FX
namespace Go.FX
open Go.Proofs
/-- slices.Insert of ways, on the abstract heap. -/
noncomputable def insK (lo : Nat) : CF := ⟨fun _ vs h k => match vs with
  | [s, i, v] => asInt i fun ik iz => Int.rec (fun i => asSlice v fun vb vo m _ => known s fun s => match FV.v s with
    | .slice none 0 0 => Bool.rec none (readCells h vb vo (Nat.mul m 2) fun new => Bool.rec none (Heap.new h (.cells new 149 2 true) fun b h' => k (.s b 0 m m) h') (allV flat1 new)) (Nat.beq (kno' ik) 3 && Nat.beq i 0 && Nat.blt 0 m && Nat.ble m 1000)
    | .slice (some ⟨b, 0, none⟩) n c => withCells h b fun cs _ z l => withCells h vb fun _ _ vz vl =>
        Bool.rec none (readCells h vb vo (Nat.mul m 2) fun new => Bool.rec none (Heap.new (Heap.kill h b) (.cells (cs.take (Nat.mul i 2) ++ new ++ cs.drop (Nat.mul i 2)) 149 2 true) fun b h' => k (.s b 0 (Nat.add n m) (Nat.add n m)) h') (allV flat1 new && allV flat1 cs))
        (Nat.beq (kno' ik) 3 && Nat.beq z 2 && l && !(vl || Nat.beq vz 1000) && Nat.beq c n && Nat.beq cs.length (Nat.mul n 2) && Nat.ble i n && Nat.blt 0 m && Nat.blt 0 n && Nat.ble (Nat.add n m) 1000 && Nat.ble lo b && !Nat.beq vb b)
    | _ => none) (fun _ => none) iz
  | _ => none⟩
variable [Sym]
/-- The real cells behind an address. -/
theorem cells_list {ρ : Rho} {w : World} {b s o n : Nat} {c : Array Value} {ct : TypeId} {f : Nat × Nat} {vs : List Value} (hw : w.heap[b]? = some (.cells c ct f)) (hs : s + vs.length ≤ c.size) (hv : ∀ (j : Nat) (v : Value), vs[j]? = some v → ∃ v', c[s + j]? = some v' ∧ VR ρ v v') (hn : n ≤ (vs.drop o).length) :
    ∃ news : List Value, VRs ρ ((vs.drop o).take n) news ∧ (∀ j v, news[j]? = some v → c[o + s + j]? = some v) ∧ (∀ j v, news[j]? = some v → w.cell? ⟨b, o + s + j, none⟩ = some v) ∧ news.length = n := by
  rw [List.length_drop] at hn
  have hl : ((c.toList.drop (o + s)).take n).length = n := by
    rw [List.length_take, List.length_drop, Array.length_toList]; omega
  have hg : ∀ j v, ((c.toList.drop (o + s)).take n)[j]? = some v → c[o + s + j]? = some v := fun j v hj => by
    rw [List.getElem?_take] at hj
    split at hj
    · rw [List.getElem?_drop, Array.getElem?_toList] at hj; exact hj
    · cases hj
  refine ⟨(c.toList.drop (o + s)).take n, VRs.of_get (by rw [hl, List.length_take, List.length_drop]; omega) fun j v hj => ?_, hg, fun j v hj => by rw [cell_of hw]; exact hg j v hj, hl⟩
  rw [List.getElem?_take] at hj
  split at hj
  · rename_i hlt
    rw [List.getElem?_drop] at hj
    obtain ⟨v', h1, h2⟩ := hv _ v hj
    refine ⟨v', ?_, h2⟩
    rw [List.getElem?_take, if_pos hlt, List.getElem?_drop, Array.getElem?_toList, ← h1]
    congr 1
    omega
  · cases hj
theorem fvs3 {ρ : Rho} {a b c : FV} {args : Array Value} (h : All2 (FVR ρ) [a, b, c] args.toList) : ∃ x y z, args = #[x, y, z] ∧ FVR ρ a x ∧ FVR ρ b y ∧ FVR ρ c z := by
  obtain ⟨l⟩ := args
  cases h with
  | cons h1 h => cases h with
    | cons h2 h => cases h with
      | cons h3 h => cases h; exact ⟨_, _, _, rfl, h1, h2, h3⟩
theorem zero_size : (Value.agg #[.int .i64 0, .int .i64 0]).cells.size = 2 := rfl
theorem ways_get (cs news olds : List Value) (i n m : Nat) (hi : i ≤ n) (ho : olds.length = n * 2) (hn : news.length = m * 2) (j : Nat) :
    (olds.take (i * 2) ++ news ++ olds.drop (i * 2))[j]? = if j < i * 2 then olds[j]? else if j < i * 2 + m * 2 then news[j - i * 2]? else olds[j - m * 2]? := by
  have ht : (olds.take (i * 2)).length = i * 2 := by rw [List.length_take]; omega
  by_cases c1 : j < i * 2
  · rw [if_pos c1, List.append_assoc, List.getElem?_append_left (by omega), List.getElem?_take, if_pos c1]
  · rw [if_neg c1]
    by_cases c2 : j < i * 2 + m * 2
    · rw [if_pos c2, List.append_assoc, List.getElem?_append_right (by omega), ht, List.getElem?_append_left (by omega)]
    · rw [if_neg c2, List.getElem?_append_right (by simp; omega), List.getElem?_drop]
      congr 1
      simp; omega
theorem ins_call (lo : Nat) (r : FR) : CallS Tryz.prog lo ((insK lo).g r) 147 := by
  intro vs h k L e ρ args w hg ha hr
  refine ⟨Tryz.call147 args w, ?_⟩
  unfold insK at e
  dsimp only at e
  split at e
  · rename_i fs fi fv
    obtain ⟨xs, xi, xv, rfl, hs, hi, hv⟩ := fvs3 ha
    obtain ⟨ik, iz, rfl, e1⟩ := asInt_some e
    have hi' := hi.i_inv
    subst hi'
    cases iz with
    | negSucc q => cases e1
    | ofNat i =>
      obtain ⟨vb, vo, m, mc, rfl, e2⟩ := asSlice_some e1
      obtain ⟨hsu, e3⟩ := known_some e2
      have hs' := hs.known_inv hsu
      obtain ⟨av, vc, rfl, hsr⟩ := hv.s_inv
      split at e3
      · -- the nil slice
        rename_i hfs
        rw [hfs] at hs'
        cases hs'
        obtain ⟨hc, e4⟩ := rec_true e3
        obtain ⟨hc, c4⟩ := and_true' hc
        obtain ⟨hc, c3⟩ := and_true' hc
        obtain ⟨c1, c2⟩ := and_true' hc
        have hk : ik = .i64 := kno'_inj ik .i64 c1
        have hi0 : i = 0 := Nat.eq_of_beq_eq_true c2
        have hm : 0 < m := Nat.le_of_ble_eq_true c3
        have hm1 : m ≤ 1000 := Nat.le_of_ble_eq_true c4
        subst hk hi0
        obtain ⟨new, e5, e6, ⟨cs, t, z, l, e7, e8, e9⟩, _⟩ := readCells_some e4
        have e8 : m * 2 ≤ (cs.drop vo).length := e8
        have e9 : new = (cs.drop vo).take (m * 2) := e9
        obtain ⟨hfl, e10⟩ := rec_true e5
        obtain ⟨hn, e11⟩ := Heap.new_eq e10
        have har := hsr.ar (by have := hsr.1; omega)
        obtain ⟨bb, s, inf, rc, ct, flo, fhi, q1, q2, q3, q4, q5, q6, q7⟩ := cell_at hr.s har e7
        subst q2
        obtain ⟨news, n1, _, n2, n3⟩ := cells_list (o := vo) (n := m * 2) q3 q5 q7 e8
        rw [← e9] at n1
        have hcall := ins_end_grow none 0 0 bb (vo + s) m vc [] news w hm (Nat.le_refl _) (by omega) (by omega) rfl n3 (fun _ => rfl) (fun a h => by cases h) n2 (flats_one n1 hfl)
        refine Calls.mono hcall ?_
        rintro e0 w' ⟨rfl, rfl⟩
        refine ⟨_, rfl, .s h.nx 0 m m, upd ρ h.nx (.at w.heap.size 0 ⟨true, 2, ([] ++ new).length, (0 + m) * 2 + (grownCap w (0 + m) 0 149 - (0 + m)) * 2⟩), h.made (.cells ([] ++ new) 149 2 true), L, ?_, ?_, ?_, e11, fun _ h => h⟩
        · have hlen : ([] ++ new).length = (0 + m) * 2 := by rw [List.nil_append, n1.length, n3]; omega
          have hsr2 := grown_SR (ρ := upd ρ h.nx (.at w.heap.size 0 ⟨true, 2, ([] ++ new).length, (0 + m) * 2 + (grownCap w (0 + m) 0 149 - (0 + m)) * 2⟩)) (f := h.nx) (b := w.heap.size) (size := 2) (need := 0 + m) (cap := grownCap w (0 + m) 0 149) (len := ([] ++ new).length) (upd_at _ _ _) hlen (grown_le _ _ _ _)
          rw [Nat.zero_add] at hsr2 ⊢
          exact .of (.slice hsr2)
        · have hlen : ([] ++ new).length = (0 + m) * 2 := by rw [List.nil_append, n1.length, n3]; omega
          exact hr.make hn rfl (grown_BR (z := .agg #[.int .i64 0, .int .i64 0]) zero_size .nil n1 hlen (grown_le _ _ _ _))
        · exact Ext.make hr hn rfl rfl rfl rfl
      · -- one that lies somewhere
        rename_i b n c hfs
        rw [hfs] at hs'
        obtain ⟨cs, ce, z, l, e4, e5⟩ := withCells_some e3
        obtain ⟨vs2, ve, vz, vl, e6, e7⟩ := withCells_some e5
        obtain ⟨hc, e8⟩ := rec_true e7
        obtain ⟨hc, c12⟩ := and_true' hc
        obtain ⟨hc, c11⟩ := and_true' hc
        obtain ⟨hc, c10⟩ := and_true' hc
        obtain ⟨hc, c9⟩ := and_true' hc
        obtain ⟨hc, c8⟩ := and_true' hc
        obtain ⟨hc, c7⟩ := and_true' hc
        obtain ⟨hc, c6⟩ := and_true' hc
        obtain ⟨hc, c5⟩ := and_true' hc
        obtain ⟨hc, c4⟩ := and_true' hc
        obtain ⟨hc, c3⟩ := and_true' hc
        obtain ⟨c1, c2⟩ := and_true' hc
        have hk : ik = .i64 := kno'_inj ik .i64 c1
        have hz : z = 2 := Nat.eq_of_beq_eq_true c2
        have hvl0 : vl = false ∧ Nat.beq vz 1000 = false := by simpa using c4
        have hvl : vl = false := hvl0.1
        have hvz : vz ≠ 1000 := fun h => by rw [h] at hvl0; exact absurd hvl0.2 (by decide)
        have hcn : c = n := Nat.eq_of_beq_eq_true c5
        have hcsl : cs.length = n * 2 := Nat.eq_of_beq_eq_true c6
        have hin : i ≤ n := Nat.le_of_ble_eq_true c7
        have hm : 0 < m := Nat.le_of_ble_eq_true c8
        have hn0 : 0 < n := Nat.le_of_ble_eq_true c9
        have hnm : n + m ≤ 1000 := Nat.le_of_ble_eq_true c10
        have hlo : lo ≤ b := Nat.le_of_ble_eq_true c11
        have hvb : vb ≠ b := fun e => by subst e; rw [Nat.beq_refl] at c12; cases c12
        subst hk hz c3 hvl hcn
        obtain ⟨new, e9, e10, ⟨vs3, t3, z3, l3, e11, e12, e13⟩, _⟩ := readCells_some e8
        rw [e6] at e11; cases e11
        have e12 : m * 2 ≤ (vs2.drop vo).length := e12
        have e13 : new = (vs2.drop vo).take (m * 2) := e13
        obtain ⟨hfl, e14⟩ := rec_true e9
        obtain ⟨hfl1, hfl2⟩ := and_true' hfl
        obtain ⟨hn, e15⟩ := Heap.new_eq e14
        have hn : h.nx < 2 ^ dH := hn
        have har := hsr.ar (by have := hsr.1; omega)
        obtain ⟨bv, sv, iv, rv, tv, vlo, vhi, q1, q2, q3, q4, q5, q6, q7⟩ := cell_at hr.s har e6
        subst q2
        obtain ⟨news, n1, _, n2, n3⟩ := cells_list (o := vo) (n := m * 2) q3 q5 q7 e12
        rw [← e13] at n1
        cases hs' with
        | slice hss =>
          rename_i a0 c'
          obtain ⟨h1, h2, h3, h4⟩ := hss
          rcases h4 with h4 | h4
          · omega
          obtain ⟨bb, s, inf, ob, p1, p2, p3⟩ := hr.live e4 h3
          simp only [p1] at h4
          obtain ⟨_, ha0, hcap⟩ := h4
          obtain ⟨rc, ct, flo, fhi, r1, r2, r3, r4, r5⟩ := p3
          subst r1 r2 ha0
          rw [Nat.zero_add] at *
          have hne : bv ≠ bb := fun c => hvb (hr.inj _ _ _ _ _ _ _ q1 (by rw [c]; exact p1))
          obtain ⟨olds, o1, o2, o3, o4⟩ := cells_list (o := 0) (n := c * 2) p2 r3 r5 (by rw [List.drop_zero]; omega)
          rw [List.drop_zero, List.take_of_length_le (by omega)] at o1
          simp only [Nat.zero_add] at o2 o3
          have h1v := flats_one n1 hfl1
          have h1c := flats_one o1 hfl2
          have hT : VRs ρ (cs.take (i * 2) ++ new ++ cs.drop (i * 2)) (olds.take (i * 2) ++ news ++ olds.drop (i * 2)) := ((o1.take _).append n1).append (o1.drop _)
          have hTl : (cs.take (i * 2) ++ new ++ cs.drop (i * 2)).length = (c + m) * 2 := by
            rw [hT.length]; simp only [List.length_append, List.length_take, List.length_drop]; omega
          have hf : ρ b ≠ .fresh := h3
          have hlt := Heap.get_lt hr.wf e4
          have hrs : rc.toList.length = rc.size := Array.length_toList
          have hol : c * 2 + s ≤ rc.size := by omega
          -- the block stays where it is
          have stay : c + m ≤ c' → ∀ (c2 : Array Value) (w' : World), w'.heap[bb]? = some (.cells c2 ct (flo, fhi)) → (∀ j, j ≠ bb → w'.heap[j]? = w.heap[j]?) → w'.heap.size = w.heap.size → w'.os = w.os → w'.tape = w.tape → w'.output = w.output → c2.size = rc.size →
              (∀ j, j < (c + m) * 2 → c2[s + j]? = (olds.take (i * 2) ++ news ++ olds.drop (i * 2))[j]?) → OpOut Tryz.prog lo k L ρ h w (.slice (some ⟨bb, s, none⟩) (c + m) c') w' := by
            intro hroom c2 w' u1 u2 u3 u4 u5 u6 u7 u8
            have htot : s + c' * 2 ≤ rc.size := by
              rcases hcap with h0 | ⟨_, _, h0⟩
              · omega
              · have h0 : 0 + s + c' * 2 ≤ rc.size := h0
                omega
            have hB : ∀ ρ', Later ρ ρ' → BR ρ' s ⟨true, 2, (cs.take (i * 2) ++ new ++ cs.drop (i * 2)).length, rc.size⟩ (.cells (cs.take (i * 2) ++ new ++ cs.drop (i * 2)) 149 2 true) (.cells c2 ct (flo, fhi)) := fun ρ' hl => by
              refine ⟨c2, ct, flo, fhi, rfl, by rw [u7], by rw [u7, hTl]; omega, ⟨fun h j hj => r4.1 h j (by omega), fun c => (by cases c)⟩, fun j v hj => ?_⟩
              have hjl : j < (c + m) * 2 := by rw [← hTl]; exact (List.getElem?_eq_some_iff.1 hj).1
              obtain ⟨v', g1, g2⟩ := hT.get j v hj
              exact ⟨v', by rw [u8 j hjl]; exact g1, g2.later hl⟩
            refine ⟨.s h.nx 0 (c + m) (c + m), _, _, L, ?_, hr.rehome hn p1 (s2 := s) (i2 := ⟨true, 2, (cs.take (i * 2) ++ new ++ cs.drop (i * 2)).length, rc.size⟩) u1 u2 hB, Ext.rehome hr hn hlo p1 u2 u3 u4 u5 u6, e15, fun _ hx => hx⟩
            refine .of (.slice ⟨Nat.le_refl _, hroom, by rw [upd_at]; simp, .inr ?_⟩)
            simp only [upd_at]
            exact ⟨trivial, by rw [Nat.zero_add], .inr ⟨trivial, by rw [Nat.zero_add]; exact hTl.symm, by omega⟩⟩
          -- a new row
          have anew : ∀ (c2 : Array Value) (cap : Nat) (w' : World) (hcp : c + m ≤ cap), w'.heap = w.heap.push (.cells c2 149 (0, 0)) → w'.os = w.os → w'.tape = w.tape → w'.output = w.output → c2.size = (c + m) * 2 + (cap - (c + m)) * 2 →
              (∀ j, j < (c + m) * 2 → c2[j]? = (olds.take (i * 2) ++ news ++ olds.drop (i * 2))[j]?) → OpOut Tryz.prog lo k L ρ h w (.slice (some ⟨w.heap.size, 0, none⟩) (c + m) cap) w' := by
            intro c2 cap w' hcp u1 u2 u3 u4 u5 u6
            have hk := hr.kill hf hlt
            have hek : Ext lo ρ h w (upd ρ b .dead) (h.kill b) w := Ext.kill hr hf hlt
            have hl := later_kill hf
            have hB : BR (upd ρ b .dead) 0 ⟨true, 2, (cs.take (i * 2) ++ new ++ cs.drop (i * 2)).length, (c + m) * 2 + (cap - (c + m)) * 2⟩ (.cells (cs.take (i * 2) ++ new ++ cs.drop (i * 2)) 149 2 true) (.cells c2 149 (0, 0)) := by
              refine ⟨c2, 149, 0, 0, rfl, by rw [u5], by rw [u5, hTl]; omega, ⟨fun _ j _ => by omega, fun _ _ => Nat.le_refl _⟩, fun j v hj => ?_⟩
              have hjl : j < (c + m) * 2 := by rw [← hTl]; exact (List.getElem?_eq_some_iff.1 hj).1
              obtain ⟨v', g1, g2⟩ := hT.get j v hj
              exact ⟨v', by rw [Nat.zero_add, u6 j hjl]; exact g1, g2.later hl⟩
            refine ⟨.s h.nx 0 (c + m) (c + m), _, _, L, ?_, hk.make hn u1 hB, hek.trans (Ext.make hk hn u1 u2 u3 u4), e15, fun _ hx => hx⟩
            exact .of (.slice (grown_SR (upd_at _ _ _) hTl hcp))
          by_cases hroom : c + m ≤ c'
          · have htot : s + c' * 2 ≤ rc.size := by
              rcases hcap with h0 | ⟨_, _, h0⟩
              · omega
              · have h0 : 0 + s + c' * 2 ≤ rc.size := h0
                omega
            have hsp : ∀ j, j < (c + m) * 2 → (w.cell? ⟨bb, s + j, none⟩).isSome = true := fun j hj => by rw [cell_of p2, Array.getElem?_eq_getElem (by omega)]; rfl
            have hfz : ∀ j, j < (c + m) * 2 → w.frozen? ⟨bb, s + j, none⟩ = false := fun j hj => World.frozen_of p2 (r4.1 (.inl rfl) _ (by omega))
            by_cases hend : i = c
            · subst hend
              have hcall := ins_end_room bb s i c' bv (vo + sv) m vc news w hm hroom hnm n3 (fun j hj => by rw [Nat.add_assoc]; exact hsp _ (by omega)) (fun j hj => by rw [Nat.add_assoc]; exact hfz _ (by omega)) n2 h1v
              refine Calls.mono hcall ?_
              rintro e0 w' ⟨rfl, rfl⟩
              obtain ⟨c2, u1, u2, u3, u4, u5, u6⟩ := setCells_heap bb news (s + i * 2) w rc ct (flo, fhi) p2 (by omega)
              have hc2 : c2.size = rc.size := by
                rw [← Array.length_toList, u1]
                simp only [List.length_append, List.length_take, List.length_drop]; omega
              refine ⟨_, rfl, stay hroom c2 _ (by rw [u2, if_pos rfl]) (fun j hj => by rw [u2, if_neg hj]) u3 u4 u5 u6 hc2 fun j hj => ?_⟩
              rw [ways_get cs news olds i i m (Nat.le_refl _) o4 n3, ← Array.getElem?_toList, u1, get_over rc.toList news (s + i * 2) (s + j) (by omega)]
              by_cases c1 : j < i * 2
              · rw [if_pos c1, if_pos (by omega), Array.getElem?_toList]
                exact (o2 j _ (List.getElem?_eq_getElem (by omega))).trans (List.getElem?_eq_getElem (by omega)).symm
              · rw [if_neg c1, if_neg (by omega), if_pos (by omega), if_pos (by omega)]
                congr 1; omega
            · have hlt2 : i < c := by omega
              have hcall := ins_shift bb s c c' i bv (vo + sv) m vc olds news w hlt2 hm hroom hnm hne o4 n3 o3 hsp hfz n2 h1c h1v tv ct rv.size rc.size (by unfold World.shape?; rw [q3]) (by unfold World.shape?; rw [p2]) (by omega)
                (World.frozen_of q3 (by have := q6.2 rfl hvz; omega)) (World.frozen_of q3 (by have := q6.2 rfl hvz; omega))
              refine Calls.mono hcall ?_
              rintro e0 w' ⟨rfl, rfl⟩
              have p2' : w.drew.heap[bb]? = some (.cells rc ct (flo, fhi)) := p2
              have hdl : (olds.drop (i * 2)).length = (c - i) * 2 := by rw [List.length_drop]; omega
              obtain ⟨c1, u1, u2, u3, u4, u5, u6⟩ := setCells_heap bb (olds.drop (i * 2)) (s + (i + m) * 2) w.drew rc ct (flo, fhi) p2' (by omega)
              have hc1 : c1.size = rc.size := by
                rw [← Array.length_toList, u1]
                simp only [List.length_append, List.length_take, List.length_drop]; omega
              have hc1l : c1.toList.length = c1.size := Array.length_toList
              obtain ⟨c2, v1, v2, v3, v4, v5, v6⟩ := setCells_heap bb news (s + i * 2) (w.drew.setCells bb (s + (i + m) * 2) (olds.drop (i * 2))) c1 ct (flo, fhi) (by rw [u2, if_pos rfl]) (by omega)
              have hc2 : c2.size = rc.size := by
                rw [← Array.length_toList, v1]
                simp only [List.length_append, List.length_take, List.length_drop]; omega
              refine ⟨_, rfl, stay hroom c2 _ (by rw [v2, if_pos rfl]) (fun j hj => by rw [v2, if_neg hj, u2, if_neg hj]; rfl) (v3.trans u3) (v4.trans u4) (v5.trans u5) (v6.trans u6) hc2 fun j hj => ?_⟩
              rw [ways_get cs news olds i c m hin o4 n3, ← Array.getElem?_toList, v1, get_over c1.toList news (s + i * 2) (s + j) (by omega)]
              by_cases c1' : j < i * 2
              · rw [if_pos c1', if_pos (by omega), u1, get_over rc.toList (olds.drop (i * 2)) (s + (i + m) * 2) (s + j) (by omega), if_pos (by omega), Array.getElem?_toList]
                exact (o2 j _ (List.getElem?_eq_getElem (by omega))).trans (List.getElem?_eq_getElem (by omega)).symm
              · rw [if_neg c1', if_neg (by omega)]
                by_cases c2' : j < i * 2 + m * 2
                · rw [if_pos c2', if_pos (by omega)]
                  congr 1; omega
                · rw [if_neg c2', if_neg (by omega), u1, get_over rc.toList (olds.drop (i * 2)) (s + (i + m) * 2) (s + j) (by omega), if_neg (by omega), if_pos (by omega), List.getElem?_drop]
                  congr 1; omega
          · have hcp := grown_le w (c + m) c' 149
            by_cases hend : i = c
            · subst hend
              have hcall := ins_end_grow (some ⟨bb, s, none⟩) i c' bv (vo + sv) m vc olds news w hm h2 (by omega) (by omega) o4 n3 (fun h => by cases h) (fun a ha j v hj => by cases ha; rw [add_none]; exact o3 j v hj) n2 h1v
              refine Calls.mono hcall ?_
              rintro e0 w' ⟨rfl, rfl⟩
              refine ⟨_, rfl, anew _ _ _ hcp rfl rfl rfl rfl ?_ fun j hj => ?_⟩
              · unfold zeroWay Builtin.zeroCells
                rw [Array.size_append, Array.size_map, Array.size_range, zero_size]
                simp only [List.size_toArray, List.length_append]
                omega
              · rw [ways_get cs news olds i i m (Nat.le_refl _) o4 n3, Array.getElem?_append_left (by simp; omega), List.getElem?_toArray]
                by_cases c1 : j < i * 2
                · rw [if_pos c1, List.getElem?_append_left (by omega)]
                · rw [if_neg c1, if_pos (by omega), List.getElem?_append_right (by omega), o4]
            · have hlt2 : i < c := by omega
              have hcall := ins_grow bb s c c' i bv (vo + sv) m vc olds news w hlt2 hm h2 (by omega) (by omega) o4 n3 o3 n2 h1c h1v
              refine Calls.mono hcall ?_
              rintro e0 w' ⟨rfl, rfl⟩
              generalize hROW : (olds.take (i * 2)).toArray ++ zeroWay (c + m - i) ++ zeroWay (grownCap w (c + m) c' 149 - (c + m)) = ROW
              have hRs : ROW.size = (c + m) * 2 + (grownCap w (c + m) c' 149 - (c + m)) * 2 := by
                rw [← hROW]
                unfold zeroWay Builtin.zeroCells
                simp only [Array.size_append, Array.size_map, Array.size_range, zero_size, List.size_toArray, List.length_take]
                omega
              have hRl : ROW.toList.length = ROW.size := Array.length_toList
              have hR0 : ∀ j, j < i * 2 → ROW.toList[j]? = olds[j]? := fun j hj => by
                rw [← hROW, Array.getElem?_toList, Array.append_assoc, Array.getElem?_append_left (by simp; omega), List.getElem?_toArray, List.getElem?_take, if_pos hj]
              have hdl : (olds.drop (i * 2)).length = (c - i) * 2 := by rw [List.length_drop]; omega
              have a1 : ((w.alloc (.cells ROW 149)).drew).heap[w.heap.size]? = some (.cells ROW 149 (0, 0)) := by show (w.heap.push _)[w.heap.size]? = _; simp
              obtain ⟨c1, u1, u2, u3, u4, u5, u6⟩ := setCells_heap w.heap.size news (i * 2) ((w.alloc (.cells ROW 149)).drew) ROW 149 (0, 0) a1 (by omega)
              have hc1 : c1.size = ROW.size := by
                rw [← Array.length_toList, u1]
                simp only [List.length_append, List.length_take, List.length_drop]; omega
              have hc1l : c1.toList.length = c1.size := Array.length_toList
              obtain ⟨c2, v1, v2, v3, v4, v5, v6⟩ := setCells_heap w.heap.size (olds.drop (i * 2)) ((i + m) * 2) ((((w.alloc (.cells ROW 149)).drew).setCells w.heap.size (i * 2) news).drew) c1 149 (0, 0) (by show (((w.alloc (.cells ROW 149)).drew).setCells w.heap.size (i * 2) news).heap[w.heap.size]? = _; rw [u2, if_pos rfl]) (by omega)
              have hc2 : c2.size = ROW.size := by
                rw [← Array.length_toList, v1]
                simp only [List.length_append, List.length_take, List.length_drop]; omega
              have hheap : (((((w.alloc (.cells ROW 149)).drew).setCells w.heap.size (i * 2) news).drew).setCells w.heap.size ((i + m) * 2) (olds.drop (i * 2))).heap = w.heap.push (.cells c2 149 (0, 0)) := by
                apply Array.ext_getElem?
                intro j
                rw [v2]
                by_cases hj : j = w.heap.size
                · rw [if_pos hj, hj]; simp
                · rw [if_neg hj]
                  show (((w.alloc (.cells ROW 149)).drew).setCells w.heap.size (i * 2) news).heap[j]? = _
                  rw [u2, if_neg hj]
                  show (w.heap.push _)[j]? = _
                  rw [Array.getElem?_push, Array.getElem?_push, if_neg hj, if_neg hj]
              refine ⟨_, rfl, anew c2 _ _ hcp hheap (v4.trans u4) (v5.trans u5) (v6.trans u6) (by rw [hc2, hRs]) fun j hj => ?_⟩
              rw [ways_get cs news olds i c m hin o4 n3, ← Array.getElem?_toList, v1, get_over c1.toList (olds.drop (i * 2)) ((i + m) * 2) j (by omega)]
              by_cases c1' : j < i * 2
              · rw [if_pos c1', if_pos (by omega), u1, get_over ROW.toList news (i * 2) j (by omega), if_pos c1']
                exact hR0 j c1'
              · rw [if_neg c1']
                by_cases c2' : j < i * 2 + m * 2
                · rw [if_pos c2', if_pos (by omega), u1, get_over ROW.toList news (i * 2) j (by omega), if_neg c1', if_pos (by omega)]
                · rw [if_neg c2', if_neg (by omega), if_pos (by omega), List.getElem?_drop]
                  congr 1; omega
      · cases e3
  · cases e
end Go.FX
