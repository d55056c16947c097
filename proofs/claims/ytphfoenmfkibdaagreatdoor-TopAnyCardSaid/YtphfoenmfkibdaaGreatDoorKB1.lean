/- What the row says of the arguments of TopAny and of the table of sha. -/
import Derived.Test.YtphfoenmfkibdaaGreatDoorKB0
set_option linter.unusedSectionVars false
set_option linter.unusedVariables false
set_option linter.unusedSimpArgs false
set_option maxRecDepth 1000000
namespace Go.Proofs.YtphfoenmfkibdaaGreatDoor
open Go Go.ChangeShapes Go.WideShapes Go.ChangeAt Go.RowKit Go.FX Go.Stop
/-- What the condition says of sha's table. -/
theorem rounds_of {W : World} (h : laidMetH Tryz.prog Rows.topAnyRow.laid W) : RoundsAt W := by
  rw [MakeChecks.laidMetH_plain _ _ _ (by kernel_rfl)] at h
  obtain ⟨ps, hv, _, _⟩ := h
  obtain ⟨_, _, _, _, _, q1, _, _, _, _, hv1, _⟩ := hv
  obtain ⟨_, _, _, _, _, q2, _, _, _, _, hv2, _⟩ := hv1
  obtain ⟨_, _, _, _, _, q3, _, _, _, _, hv3, _⟩ := hv2
  obtain ⟨g', t', cs, fuel, p, q, hg', ht', hvar, hd, _, _⟩ := hv3
  obtain rfl := Option.some.inj (gRounds.symm.trans hg')
  obtain rfl := Option.some.inj (tRounds.symm.trans ht')
  have hd' : DataW.trod (fun _ => ()) Tryz.prog W 0 (fun _ => true) false fuel 409 cs.toList = some (Lib.tabData .u32 (kR.map Int.ofNat), p) := hd
  have hc := Lib.cells_of_tab (n := 64) (e := 73) (by kernel_rfl) (by kernel_rfl) (by kernel_rfl) (by kernel_rfl) hd'
  unfold World.var? at hvar
  rw [gRounds] at hvar
  have hvar : (match W.heap[0]? with | some (Obj.cells cs _ _) => some cs | _ => none) = some cs := hvar
  split at hvar
  · rename_i c ct f hb
    cases hvar
    refine ⟨ct, f, ?_⟩
    rw [hb]
    have e : cs = kRV.toArray := by
      first
      | exact hc
      | (rw [← Array.toArray_toList (xs := cs), hc]; rfl)
      | (apply Array.ext'; rw [hc]; rfl)
    rw [e]
  · cases hvar
/-- The pair, as it is. -/
theorem pair_of {W : World} {base : Nat} {v : Value} (h : Value.okWide Tryz.prog W .any base 59 v) : ∃ s0 s1 : Nat, v = .agg #[.int .u64 (s0 : Nat), .int .u64 (s1 : Nat)] ∧ s0 < 18446744073709551616 ∧ s1 < 18446744073709551616 := by
  unfold Value.okWide at h
  rw [Tryz.underlying59] at h
  obtain ⟨cs, rfl, hsz, ts, hts, _, hall⟩ := h
  rw [types59] at hts
  cases hts
  have hsz : cs.size = 2 := hsz.trans (by kernel_rfl)
  have each : ∀ i, i < 2 → ∃ s : Nat, cs[i]? = some (.int .u64 (s : Nat)) ∧ s < 18446744073709551616 := fun i hi => by
    obtain ⟨u, hu, hc⟩ := hall i _ (Array.getElem?_eq_getElem (by omega))
    have hu : u = 27 := by
      rcases i with _ | _ | i
      · simpa using hu.symm
      · simpa using hu.symm
      · omega
    subst hu
    unfold Cell.okWide at hc
    rw [Tryz.underlying27] at hc
    generalize hx : cs[i]'(by omega) = x at hc
    have hc : Cell.ok Tryz.prog W .any base 27 x := by
      cases x <;> exact hc
    unfold Cell.ok at hc
    rw [Tryz.underlying27] at hc
    cases x <;> first | (exfalso; simp at hc; done) | skip
    rename_i k n _
    obtain ⟨rfl, h1, h2⟩ := hc
    have h1 : 0 ≤ n := h1
    have h2 : n ≤ 18446744073709551615 := h2
    refine ⟨n.toNat, ?_, by omega⟩
    rw [Array.getElem?_eq_getElem (by omega), hx]
    congr 2
    omega
  obtain ⟨s0, e0, b0⟩ := each 0 (by decide)
  obtain ⟨s1, e1, b1⟩ := each 1 (by decide)
  refine ⟨s0, s1, ?_, b0, b1⟩
  congr 1
  apply Array.ext_getElem?
  intro i
  rcases i with _ | _ | i
  · rw [e0]; rfl
  · rw [e1]; rfl
  · rw [Array.getElem?_eq_none (by omega)]; rfl
/-- The octet, as it is. -/
theorem octet_of {W : World} {base : Nat} {v : Value} (h : Value.okWide Tryz.prog W .any base 5 v) : ∃ k : Nat, v = .int .u8 (k : Nat) ∧ k < 256 := by
  unfold Value.okWide at h
  rw [Tryz.underlying5] at h
  have h : Cell.okWide Tryz.prog W .any base 5 v := h
  unfold Cell.okWide at h
  rw [Tryz.underlying5] at h
  have hc : Cell.ok Tryz.prog W .any base 5 v := by
    cases v <;> exact h
  unfold Cell.ok at hc
  rw [Tryz.underlying5] at hc
  cases v <;> first | (exfalso; simp at hc; done) | skip
  rename_i k n _
  obtain ⟨rfl, h1, h2⟩ := hc
  have h1 : 0 ≤ n := h1
  have h2 : n ≤ 255 := h2
  refine ⟨n.toNat, ?_, by omega⟩
  congr 1
  omega
/-- The numbers of chance, as they are. -/
theorem chance_of {H : Type} {enc : TypeId × Value → H} {W : World} {base : Nat} {v : Value} {d : DataW H} {ps : List MemPlace} (hv : Value.okWide Tryz.prog W .any base 60 v) (h : DataW.Trod enc Tryz.prog W 0 (fun _ => true) true 60 v d ps) :
    v = .slice none 0 0 ∨ ∃ b off n cap, ∃ zs : List Nat, v = .slice (some ⟨b, off, none⟩) n cap ∧ n ≤ cap ∧ zs.length = n ∧ (∀ z ∈ zs, z < 18446744073709551616) ∧ ∀ i, i < n → W.cell? ⟨b, off + i, none⟩ = some (.int .u64 (zs.getD i 0 : Nat)) := by
  obtain ⟨a0, len, cap, rfl⟩ := okWide_slice Tryz.underlying60 hv
  have hv' : Cell.okWide Tryz.prog W .any base 60 (.slice a0 len cap) := by
    unfold Value.okWide at hv
    rw [Tryz.underlying60] at hv
    exact hv
  unfold Cell.okWide at hv'
  rw [Tryz.underlying60] at hv'
  have hc : Cell.ok Tryz.prog W .any base 60 (.slice a0 len cap) := hv'
  unfold Cell.ok at hc
  rw [Tryz.underlying60] at hc
  obtain ⟨fuel, hf⟩ := h
  rcases open_ints Tryz.underlying60 Tryz.underlying27 cells27 hf with ⟨hcs, hx⟩ | ⟨a, len', cap', zs, hcs, _, hl, hm, hz, hx, hcell, hwz⟩
  · left
    simpa [Value.cells] using hcs
  · right
    have e : a0 = some a ∧ len = len' ∧ cap = cap' := by simpa [Value.cells] using hcs
    obtain ⟨rfl, rfl, rfl⟩ := e
    obtain ⟨_, _, _, hsp, _⟩ := hc
    obtain ⟨b, off, sp⟩ := a
    have hsp : sp = none := hsp
    subst hsp
    have hz : zs.length = cap := by simpa using hz
    have wf : ∀ z ∈ zs, 0 ≤ z ∧ z ≤ 18446744073709551615 := fun z hzm => by
      have := hwz z hzm
      have : IntKind.u64.min ≤ z ∧ z ≤ IntKind.u64.max := by
        unfold Lit.wf at this
        simpa using this
      exact this
    refine ⟨b, off, len, cap, (zs.take len).map Int.toNat, rfl, hl, by simp; omega, fun z hzm => ?_, fun i hi => ?_⟩
    · obtain ⟨y, hy, rfl⟩ := List.mem_map.1 hzm
      have := wf y (List.mem_of_mem_take hy)
      omega
    · have h1 := hcell i (by omega)
      have hi' : i < zs.length := by omega
      have h2 : zs.getD i 0 = zs[i] := by simp [List.getD, hi']
      have h3 : ((zs.take len).map Int.toNat).getD i 0 = zs[i].toNat := by simp [List.getD, hi', hi]
      have h4 := wf zs[i] (List.getElem_mem _)
      rw [h2] at h1
      rw [h3, Int.toNat_of_nonneg h4.1]
      have e : (⟨b, off, none⟩ : Addr).add i = ⟨b, off + i, none⟩ := by
        unfold Addr.add
        split
        · rename_i h; subst h; rfl
        · rfl
      rw [← e]
      exact h1
end Go.Proofs.YtphfoenmfkibdaaGreatDoor
