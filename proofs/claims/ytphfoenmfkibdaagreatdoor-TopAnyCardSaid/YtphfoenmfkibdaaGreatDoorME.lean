/- An operation hangs on its operands alone; calls; plain regions of the quick machine, sound. -/
import Derived.Test.YtphfoenmfkibdaaGreatDoorMD
import Derived.RangeFuncLeaves
import Derived.OrdersIn
import Derived.RangeFuncCalls
import Derived.TacticsIn
set_option linter.unusedSectionVars false
set_option linter.unusedVariables false
set_option linter.unusedSimpArgs false
set_option maxRecDepth 1000000
namespace Go.FX
variable [Sym]
theorem agree1 {x : Operand} {tm tm' : Tm} (h : ev tm x = ev tm' x) : (opd x).f tm = (opd x).f tm' := by rw [opd_f, opd_f, h]
theorem cond_agree {b : Bool} {A B : COp} {tm tm' : Tm} {r : FR} {h : Heap} {k : K} (hA : A.g r tm h k = A.g r tm' h k) (hB : B.g r tm h k = B.g r tm' h k) : (bif b then A else B).g r tm h k = (bif b then A else B).g r tm' h k := by cases b <;> assumption
section
variable {E : Env} {tm tm' : Tm} {r : FR} {h : Heap} {k : K}
theorem unOp_agree {op : UnOp} {x : Operand} (hx : ev tm x = ev tm' x) : (unOp op (opd x)).g r tm h k = (unOp op (opd x)).g r tm' h k := by
  have e := agree1 hx
  generalize opd x = ox at e ⊢
  obtain ⟨f⟩ := ox
  dsimp only at e
  unfold unOp
  (try dsimp only) <;> repeat' (first | rfl | (simp only [e]; done) | apply cond_agree | split)
theorem lenOp_agree {t : TypeId} {x : Operand} (hx : ev tm x = ev tm' x) : (lenOp E t (opd x)).g r tm h k = (lenOp E t (opd x)).g r tm' h k := by
  have e := agree1 hx
  generalize opd x = ox at e ⊢
  obtain ⟨f⟩ := ox
  dsimp only at e
  unfold lenOp lenAt
  (try dsimp only) <;> repeat' (first | rfl | (simp only [e]; done) | apply cond_agree | split)
theorem loadOp_agree {t : TypeId} {x : Operand} (hx : ev tm x = ev tm' x) : (loadOp E t (opd x)).g r tm h k = (loadOp E t (opd x)).g r tm' h k := by
  have e := agree1 hx
  generalize opd x = ox at e ⊢
  obtain ⟨f⟩ := ox
  dsimp only at e
  unfold loadOp
  (try dsimp only) <;> repeat' (first | rfl | (simp only [e]; done) | apply cond_agree | split)
theorem fieldAddr_agree {t : TypeId} {i : Nat} {x : Operand} (hx : ev tm x = ev tm' x) : (fieldAddr E t (opd x) i).g r tm h k = (fieldAddr E t (opd x) i).g r tm' h k := by
  have e := agree1 hx
  generalize opd x = ox at e ⊢
  obtain ⟨f⟩ := ox
  dsimp only at e
  unfold fieldAddr
  (try dsimp only) <;> repeat' (first | rfl | (simp only [e]; done) | apply cond_agree | split)
theorem fieldOp_agree {t : TypeId} {i : Nat} {x : Operand} (hx : ev tm x = ev tm' x) : (fieldOp E t (opd x) i).g r tm h k = (fieldOp E t (opd x) i).g r tm' h k := by
  have e := agree1 hx
  generalize opd x = ox at e ⊢
  obtain ⟨f⟩ := ox
  dsimp only at e
  unfold fieldOp
  (try dsimp only) <;> repeat' (first | rfl | (simp only [e]; done) | apply cond_agree | split)
theorem assertOp_agree {t : TypeId} {b : Bool} {x : Operand} (hx : ev tm x = ev tm' x) : (assertOp E (opd x) t b).g r tm h k = (assertOp E (opd x) t b).g r tm' h k := by
  have e := agree1 hx
  generalize opd x = ox at e ⊢
  obtain ⟨f⟩ := ox
  dsimp only at e
  unfold assertOp
  (try dsimp only) <;> repeat' (first | rfl | (simp only [e]; done) | apply cond_agree | split)
theorem entryOp_agree  {x : Operand} (hx : ev tm x = ev tm' x) : (entryOp (opd x)).g r tm h k = (entryOp (opd x)).g r tm' h k := by
  have e := agree1 hx
  generalize opd x = ox at e ⊢
  obtain ⟨f⟩ := ox
  dsimp only at e
  unfold entryOp
  (try dsimp only) <;> repeat' (first | rfl | (simp only [e]; done) | apply cond_agree | split)
theorem boxOp_agree {t : TypeId} {x : Operand} (hx : ev tm x = ev tm' x) : (boxOp t (opd x)).g r tm h k = (boxOp t (opd x)).g r tm' h k := by
  have e := agree1 hx
  generalize opd x = ox at e ⊢
  obtain ⟨f⟩ := ox
  dsimp only at e
  unfold boxOp
  (try dsimp only) <;> repeat' (first | rfl | (simp only [e]; done) | apply cond_agree | split)
theorem bytesOp_agree {t : TypeId} {x : Operand} (hx : ev tm x = ev tm' x) : (bytesOp E t (opd x)).g r tm h k = (bytesOp E t (opd x)).g r tm' h k := by
  have e := agree1 hx
  generalize opd x = ox at e ⊢
  obtain ⟨f⟩ := ox
  dsimp only at e
  unfold bytesOp
  (try dsimp only) <;> repeat' (first | rfl | (simp only [e]; done) | apply cond_agree | split)
theorem rangeOp_agree {t : TypeId} {x : Operand} (hx : ev tm x = ev tm' x) : (rangeOp E t (opd x)).g r tm h k = (rangeOp E t (opd x)).g r tm' h k := by
  have e := agree1 hx
  generalize opd x = ox at e ⊢
  obtain ⟨f⟩ := ox
  dsimp only at e
  unfold rangeOp
  (try dsimp only) <;> repeat' (first | rfl | (simp only [e]; done) | apply cond_agree | split)
theorem clearOp_agree {t : TypeId} {x : Operand} (hx : ev tm x = ev tm' x) : (clearOp E t (opd x)).g r tm h k = (clearOp E t (opd x)).g r tm' h k := by
  have e := agree1 hx
  generalize opd x = ox at e ⊢
  obtain ⟨f⟩ := ox
  dsimp only at e
  unfold clearOp
  (try dsimp only) <;> repeat' (first | rfl | (simp only [e]; done) | apply cond_agree | split)
theorem nextStr_agree  {x : Operand} (hx : ev tm x = ev tm' x) : (nextStr E (opd x)).g r tm h k = (nextStr E (opd x)).g r tm' h k := by
  have e := agree1 hx
  generalize opd x = ox at e ⊢
  obtain ⟨f⟩ := ox
  dsimp only at e
  unfold nextStr
  (try dsimp only) <;> repeat' (first | rfl | (simp only [e]; done) | apply cond_agree | split)
theorem nextMap_agree  {x : Operand} (hx : ev tm x = ev tm' x) : (nextMap E (opd x)).g r tm h k = (nextMap E (opd x)).g r tm' h k := by
  have e := agree1 hx
  generalize opd x = ox at e ⊢
  obtain ⟨f⟩ := ox
  dsimp only at e
  unfold nextMap
  (try dsimp only) <;> repeat' (first | rfl | (simp only [e]; done) | apply cond_agree | split)
theorem arith_agree {b : Bin} {x y : Operand} (hx : ev tm x = ev tm' x) (hy : ev tm y = ev tm' y) : (arith b (opd x) (opd y)).g r tm h k = (arith b (opd x) (opd y)).g r tm' h k := by
  have e := agree1 hx
  generalize opd x = ox at e ⊢
  obtain ⟨f⟩ := ox
  dsimp only at e
  have e' := agree1 hy
  generalize opd y = oy at e' ⊢
  obtain ⟨g⟩ := oy
  dsimp only at e'
  unfold arith
  (try dsimp only) <;> repeat' (first | rfl | (simp only [e, e']; done) | apply cond_agree | split)
theorem divide_agree {b : Bin} {s : FV → FV → Option FV} {x y : Operand} (hx : ev tm x = ev tm' x) (hy : ev tm y = ev tm' y) : (divide b s (opd x) (opd y)).g r tm h k = (divide b s (opd x) (opd y)).g r tm' h k := by
  have e := agree1 hx
  generalize opd x = ox at e ⊢
  obtain ⟨f⟩ := ox
  dsimp only at e
  have e' := agree1 hy
  generalize opd y = oy at e' ⊢
  obtain ⟨g⟩ := oy
  dsimp only at e'
  unfold divide
  (try dsimp only) <;> repeat' (first | rfl | (simp only [e, e']; done) | apply cond_agree | split)
theorem shift_agree {b : IntKind → Int → Nat → Int} {x y : Operand} (hx : ev tm x = ev tm' x) (hy : ev tm y = ev tm' y) : (shift b (opd x) (opd y)).g r tm h k = (shift b (opd x) (opd y)).g r tm' h k := by
  have e := agree1 hx
  generalize opd x = ox at e ⊢
  obtain ⟨f⟩ := ox
  dsimp only at e
  have e' := agree1 hy
  generalize opd y = oy at e' ⊢
  obtain ⟨g⟩ := oy
  dsimp only at e'
  unfold shift
  (try dsimp only) <;> repeat' (first | rfl | (simp only [e, e']; done) | apply cond_agree | split)
theorem logic_agree {b : Int → Int → Bool} {s : FV → FV → Option Bool} {yes no : FV} {x y : Operand} (hx : ev tm x = ev tm' x) (hy : ev tm y = ev tm' y) : (logic b s (opd x) (opd y) yes no).g r tm h k = (logic b s (opd x) (opd y) yes no).g r tm' h k := by
  have e := agree1 hx
  generalize opd x = ox at e ⊢
  obtain ⟨f⟩ := ox
  dsimp only at e
  have e' := agree1 hy
  generalize opd y = oy at e' ⊢
  obtain ⟨g⟩ := oy
  dsimp only at e'
  unfold logic
  (try dsimp only) <;> repeat' (first | rfl | (simp only [e, e']; done) | apply cond_agree | split)
theorem equal_agree {t : TypeId} {yes no : FV} {x y : Operand} (hx : ev tm x = ev tm' x) (hy : ev tm y = ev tm' y) : (equal E t x y yes no).g r tm h k = (equal E t x y yes no).g r tm' h k := by
  unfold equal
  have e := agree1 hx
  generalize opd x = ox at e ⊢
  obtain ⟨f⟩ := ox
  dsimp only at e
  have e' := agree1 hy
  generalize opd y = oy at e' ⊢
  obtain ⟨g⟩ := oy
  dsimp only at e'
  (try dsimp only) <;> repeat' (first | rfl | (simp only [e, e']; done) | apply cond_agree | split)
theorem strAdd_agree  {x y : Operand} (hx : ev tm x = ev tm' x) (hy : ev tm y = ev tm' y) : (strAdd (opd x) (opd y)).g r tm h k = (strAdd (opd x) (opd y)).g r tm' h k := by
  have e := agree1 hx
  generalize opd x = ox at e ⊢
  obtain ⟨f⟩ := ox
  dsimp only at e
  have e' := agree1 hy
  generalize opd y = oy at e' ⊢
  obtain ⟨g⟩ := oy
  dsimp only at e'
  unfold strAdd
  (try dsimp only) <;> repeat' (first | rfl | (simp only [e, e']; done) | apply cond_agree | split)
theorem indexAddr_agree {t : TypeId} {x y : Operand} (hx : ev tm x = ev tm' x) (hy : ev tm y = ev tm' y) : (indexAddr E t (opd x) (opd y)).g r tm h k = (indexAddr E t (opd x) (opd y)).g r tm' h k := by
  have e := agree1 hx
  generalize opd x = ox at e ⊢
  obtain ⟨f⟩ := ox
  dsimp only at e
  have e' := agree1 hy
  generalize opd y = oy at e' ⊢
  obtain ⟨g⟩ := oy
  dsimp only at e'
  unfold indexAddr
  (try dsimp only) <;> repeat' (first | rfl | (simp only [e, e']; done) | apply cond_agree | split)
theorem indexOp_agree {t : TypeId} {x y : Operand} (hx : ev tm x = ev tm' x) (hy : ev tm y = ev tm' y) : (indexOp E t (opd x) (opd y)).g r tm h k = (indexOp E t (opd x) (opd y)).g r tm' h k := by
  have e := agree1 hx
  generalize opd x = ox at e ⊢
  obtain ⟨f⟩ := ox
  dsimp only at e
  have e' := agree1 hy
  generalize opd y = oy at e' ⊢
  obtain ⟨g⟩ := oy
  dsimp only at e'
  unfold indexOp
  (try dsimp only) <;> repeat' (first | rfl | (simp only [e, e']; done) | apply cond_agree | split)
theorem minMax_agree {b : Bool} {x y : Operand} (hx : ev tm x = ev tm' x) (hy : ev tm y = ev tm' y) : (minMax b (opd x) (opd y)).g r tm h k = (minMax b (opd x) (opd y)).g r tm' h k := by
  have e := agree1 hx
  generalize opd x = ox at e ⊢
  obtain ⟨f⟩ := ox
  dsimp only at e
  have e' := agree1 hy
  generalize opd y = oy at e' ⊢
  obtain ⟨g⟩ := oy
  dsimp only at e'
  unfold minMax
  (try dsimp only) <;> repeat' (first | rfl | (simp only [e, e']; done) | apply cond_agree | split)
theorem storeOp_agree {t : TypeId} {x y : Operand} (hx : ev tm x = ev tm' x) (hy : ev tm y = ev tm' y) : (storeOp E t (opd x) (opd y)).g r tm h k = (storeOp E t (opd x) (opd y)).g r tm' h k := by
  have e := agree1 hx
  generalize opd x = ox at e ⊢
  obtain ⟨f⟩ := ox
  dsimp only at e
  have e' := agree1 hy
  generalize opd y = oy at e' ⊢
  obtain ⟨g⟩ := oy
  dsimp only at e'
  unfold storeOp
  (try dsimp only) <;> repeat' (first | rfl | (simp only [e, e']; done) | apply cond_agree | split)
theorem lookupOp_agree {t : TypeId} {b : Bool} {x y : Operand} (hx : ev tm x = ev tm' x) (hy : ev tm y = ev tm' y) : (lookupOp E t (opd x) (opd y) b).g r tm h k = (lookupOp E t (opd x) (opd y) b).g r tm' h k := by
  have e := agree1 hx
  generalize opd x = ox at e ⊢
  obtain ⟨f⟩ := ox
  dsimp only at e
  have e' := agree1 hy
  generalize opd y = oy at e' ⊢
  obtain ⟨g⟩ := oy
  dsimp only at e'
  unfold lookupOp
  (try dsimp only) <;> repeat' (first | rfl | (simp only [e, e']; done) | apply cond_agree | split)
theorem makeSliceOp_agree {t : TypeId} {x y : Operand} (hx : ev tm x = ev tm' x) (hy : ev tm y = ev tm' y) : (makeSliceOp E t (opd x) (opd y)).g r tm h k = (makeSliceOp E t (opd x) (opd y)).g r tm' h k := by
  have e := agree1 hx
  generalize opd x = ox at e ⊢
  obtain ⟨f⟩ := ox
  dsimp only at e
  have e' := agree1 hy
  generalize opd y = oy at e' ⊢
  obtain ⟨g⟩ := oy
  dsimp only at e'
  unfold makeSliceOp
  (try dsimp only) <;> repeat' (first | rfl | (simp only [e, e']; done) | apply cond_agree | split)
theorem appendOp_agree {s t : TypeId} {x y : Operand} (hx : ev tm x = ev tm' x) (hy : ev tm y = ev tm' y) : (appendOp E s t (opd x) (opd y)).g r tm h k = (appendOp E s t (opd x) (opd y)).g r tm' h k := by
  have e := agree1 hx
  generalize opd x = ox at e ⊢
  obtain ⟨f⟩ := ox
  dsimp only at e
  have e' := agree1 hy
  generalize opd y = oy at e' ⊢
  obtain ⟨g⟩ := oy
  dsimp only at e'
  unfold appendOp
  (try dsimp only) <;> repeat' (first | rfl | (simp only [e, e']; done) | apply cond_agree | split)
theorem copyOp_agree {t : TypeId} {x y : Operand} (hx : ev tm x = ev tm' x) (hy : ev tm y = ev tm' y) : (copyOp E t (opd x) (opd y)).g r tm h k = (copyOp E t (opd x) (opd y)).g r tm' h k := by
  have e := agree1 hx
  generalize opd x = ox at e ⊢
  obtain ⟨f⟩ := ox
  dsimp only at e
  have e' := agree1 hy
  generalize opd y = oy at e' ⊢
  obtain ⟨g⟩ := oy
  dsimp only at e'
  unfold copyOp
  (try dsimp only) <;> repeat' (first | rfl | (simp only [e, e']; done) | apply cond_agree | split)
theorem mapUpdateOp_agree {t : TypeId} {x y z : Operand} (hx : ev tm x = ev tm' x) (hy : ev tm y = ev tm' y) (hz : ev tm z = ev tm' z) : (mapUpdateOp E t (opd x) (opd y) (opd z)).g r tm h k = (mapUpdateOp E t (opd x) (opd y) (opd z)).g r tm' h k := by
  have e := agree1 hx
  generalize opd x = ox at e ⊢
  obtain ⟨f⟩ := ox
  dsimp only at e
  have e' := agree1 hy
  generalize opd y = oy at e' ⊢
  obtain ⟨g⟩ := oy
  dsimp only at e'
  have e'' := agree1 hz
  generalize opd z = oz at e'' ⊢
  obtain ⟨g'⟩ := oz
  dsimp only at e''
  unfold mapUpdateOp
  (try dsimp only) <;> repeat' (first | rfl | (simp only [e, e', e'']; done) | apply cond_agree | split)
end
end Go.FX
namespace Go.FX
variable [Sym]
section
variable {E : Env} {tm tm' : Tm} {r : FR} {h : Heap} {k : K}
theorem oopd_agree {x : Option Operand} (hx : ∀ y, x = some y → ev tm y = ev tm' y) : (oopd x).f tm = (oopd x).f tm' := by
  rw [oopd_f, oopd_f]
  cases x with
  | none => rfl
  | some y => simp [hx y rfl]
theorem opds_agree {xs : List Operand} (hx : ∀ y ∈ xs, ev tm y = ev tm' y) : (opds xs).f tm = (opds xs).f tm' := by
  rw [opds_f, opds_f]
  exact List.map_congr_left hx
theorem parts_agree {place : Nat → Option (Nat × Nat)} : ∀ {ps : List (Nat × Operand)} {g : Tm → List (Nat × Nat × FV)}, parts place ps = some ⟨g⟩ → (∀ p ∈ ps, ev tm p.2 = ev tm' p.2) → g tm = g tm'
  | [], g, hp, _ => by cases hp; rfl
  | (i, x) :: rs, g, hp, hx => by
    have hp' : (match place i, opd x, parts place rs with
      | some (o, z), ⟨f⟩, some ⟨g⟩ => some (⟨fun tm => (o, z, f tm) :: g tm⟩ : Parts)
      | _, _, _ => none) = some ⟨g⟩ := hp
    cases hpl : place i with
    | none => rw [hpl] at hp'; cases hp'
    | some oz =>
      obtain ⟨o, z⟩ := oz
      cases hpr : parts place rs with
      | none => rw [hpl, hpr] at hp'; cases hp'
      | some gp =>
        obtain ⟨g'⟩ := gp
        rw [hpl, hpr] at hp'
        have hg : g = fun tm => (o, z, (opd x).f tm) :: g' tm := by cases hp'; rfl
        subst hg
        have h1 := parts_agree hpr fun p hp => hx p (List.mem_cons_of_mem _ hp)
        have h2 := agree1 (hx (i, x) (List.mem_cons_self ..))
        simp only [h1]
        rw [h2]
theorem sliceOp_agree {t : TypeId} {x : Operand} {lo hi mx : Option Operand} (hx : ev tm x = ev tm' x) (h1 : ∀ y, lo = some y → ev tm y = ev tm' y) (h2 : ∀ y, hi = some y → ev tm y = ev tm' y) (h3 : ∀ y, mx = some y → ev tm y = ev tm' y) :
    (sliceOp E t (opd x) lo hi mx).g r tm h k = (sliceOp E t (opd x) lo hi mx).g r tm' h k := by
  have e1 := oopd_agree h1
  have e2 := oopd_agree h2
  have e3 := oopd_agree h3
  have e := agree1 hx
  generalize opd x = ox at e ⊢
  obtain ⟨f⟩ := ox
  dsimp only at e
  unfold sliceOp
  generalize oopd lo = ol at *
  generalize oopd hi = oh at *
  generalize oopd mx = om at *
  obtain ⟨l⟩ := ol
  obtain ⟨u⟩ := oh
  obtain ⟨m⟩ := om
  dsimp only at e1 e2 e3 ⊢
  repeat' (first | rfl | (simp only [e, e1, e2, e3]; done) | apply cond_agree | split)
theorem build_agree {t : TypeId} {ps : List (Nat × Operand)} (hx : ∀ p ∈ ps, ev tm p.2 = ev tm' p.2) : (build' E t ps).g r tm h k = (build' E t ps).g r tm' h k := by
  unfold build'
  split
  · split
    · split
      · rename_i g hg; have := parts_agree hg hx; dsimp only; rw [this]
      · rfl
    · rfl
  · split
    · split
      · rename_i g hg; have := parts_agree hg hx; dsimp only; rw [this]
      · rfl
    · rfl
  · rfl
theorem buildSlice_agree {t : TypeId} {n : Nat} {ps : List (Nat × Operand)} (hx : ∀ p ∈ ps, ev tm p.2 = ev tm' p.2) : (buildSliceOp E t n ps).g r tm h k = (buildSliceOp E t n ps).g r tm' h k := by
  unfold buildSliceOp
  split
  · split
    · split
      · rename_i g hg
        have := parts_agree hg hx
        apply cond_agree
        · dsimp only; rw [this]
        · rfl
      · rfl
    · rfl
  · rfl
end
end Go.FX
namespace Go.FX
variable [Sym]
section
variable {E : Env} {tm tm' : Tm} {r : FR} {h : Heap} {k : K}
theorem binOp_agree {op : BinOp} {t : TypeId} {x y : Operand} (hx : ev tm x = ev tm' x) (hy : ev tm y = ev tm' y) : (binOp E op t x y).g r tm h k = (binOp E op t x y).g r tm' h k := by
  unfold binOp
  cases op <;> first
    | exact shift_agree hx hy | exact arith_agree hx hy | exact divide_agree hx hy | exact logic_agree hx hy | exact logic_agree hy hx
    | exact cond_agree (logic_agree hx hy) (equal_agree hx hy) | exact cond_agree (strAdd_agree hx hy) (arith_agree hx hy)
theorem convert_agree {s d : TypeId} {x : Operand} (hx : ev tm x = ev tm' x) : (convertOp E s d (opd x)).g r tm h k = (convertOp E s d (opd x)).g r tm' h k := by
  unfold convertOp
  apply cond_agree
  · rfl
  · split
    · have e := agree1 hx
      generalize opd x = ox at e ⊢; obtain ⟨f⟩ := ox; dsimp only at e ⊢; simp only [e]
    · have e := agree1 hx
      generalize opd x = ox at e ⊢; obtain ⟨f⟩ := ox; dsimp only at e ⊢; simp only [e]
    · exact bytesOp_agree hx
    · rfl
theorem makeMap_agree {t : TypeId} {x : Option Operand} (hx : ∀ y, x = some y → ev tm y = ev tm' y) : (makeMapOp E t x).g r tm h k = (makeMapOp E t x).g r tm' h k := by
  cases x with
  | none => rfl
  | some y =>
    have e := agree1 (hx y rfl)
    unfold makeMapOp
    cases hu : E.und t with
    | none => rfl
    | some d => cases d with
      | map a b => dsimp only; rw [e]
      | _ => rfl
theorem call_agree {c : Call} (hx : ∀ x ∈ c.operands, ev tm x = ev tm' x) : (callOp E c).g r tm h k = (callOp E c).g r tm' h k := by
  have ha : ∀ x ∈ c.args.toList, ev tm x = ev tm' x := fun x hm => hx x (by unfold Call.operands; simp; right; simpa using hm)
  unfold callOp
  split
  · have e := opds_agree ha
    generalize opds c.args.toList = ox at e ⊢; obtain ⟨f⟩ := ox; dsimp only at e ⊢; simp only [e]
  · rename_i f hne hc
    have hf : ev tm f = ev tm' f := hx f (by unfold Call.operands; simp [hc])
    have e := opds_agree ha
    have e' := agree1 hf
    generalize opds c.args.toList = ox at e ⊢; obtain ⟨g⟩ := ox
    generalize opd f = oy at e' ⊢; obtain ⟨g'⟩ := oy
    dsimp only at e e' ⊢; simp only [e, e']
  · rename_i x name hc
    have hf : ev tm x = ev tm' x := hx x (by unfold Call.operands; simp [hc])
    have e := opds_agree ha
    have e' := agree1 hf
    unfold invokeOp
    generalize opds c.args.toList = ox at e ⊢; obtain ⟨g⟩ := ox
    generalize opd x = oy at e' ⊢; obtain ⟨g'⟩ := oy
    dsimp only at e e' ⊢; simp only [e, e']
  · split
    · exact lenOp_agree (ha _ (by rw [‹c.args.toList = _›]; simp))
    · exact minMax_agree (ha _ (by rw [‹c.args.toList = _›]; simp)) (ha _ (by rw [‹c.args.toList = _›]; simp))
    · exact minMax_agree (ha _ (by rw [‹c.args.toList = _›]; simp)) (ha _ (by rw [‹c.args.toList = _›]; simp))
    · exact appendOp_agree (ha _ (by rw [‹c.args.toList = _›]; simp)) (ha _ (by rw [‹c.args.toList = _›]; simp))
    · exact copyOp_agree (ha _ (by rw [‹c.args.toList = _›]; simp)) (ha _ (by rw [‹c.args.toList = _›]; simp))
    · exact clearOp_agree (ha _ (by rw [‹c.args.toList = _›]; simp))
    · rfl
/-- What an operation does hangs on its operands alone. -/
theorem comp_agree {o : Op} (hx : ∀ x ∈ o.operands, ev tm x = ev tm' x) : (compOp E o).g r tm h k = (compOp E o).g r tm' h k := by
  cases o with
  | move x =>
    have e := agree1 (hx x (by simp [Op.operands]))
    show k ((opd x).f tm) h = k ((opd x).f tm') h
    rw [e]
  | assign x =>
    have e := agree1 (hx x (by simp [Op.operands]))
    show k ((opd x).f tm) h = k ((opd x).f tm') h
    rw [e]
  | pick c a b =>
    have e1 := agree1 (hx c (by simp [Op.operands]))
    have e2 := agree1 (hx a (by simp [Op.operands]))
    have e3 := agree1 (hx b (by simp [Op.operands]))
    show asBool ((opd c).f tm) (fun t => Bool.rec (k ((opd b).f tm) h) (k ((opd a).f tm) h) t) = asBool ((opd c).f tm') (fun t => Bool.rec (k ((opd b).f tm') h) (k ((opd a).f tm') h) t)
    rw [e1, e2, e3]
  | binOp op t x y yt => exact binOp_agree (hx x (by simp [Op.operands])) (hx y (by simp [Op.operands]))
  | unOp op t x => exact unOp_agree (hx x (by simp [Op.operands]))
  | convert s d x => exact convert_agree (hx x (by simp [Op.operands]))
  | field t x i => exact fieldOp_agree (hx x (by simp [Op.operands]))
  | index t x i => exact indexOp_agree (hx x (by simp [Op.operands])) (hx i (by simp [Op.operands]))
  | fieldAddr t x i => exact fieldAddr_agree (hx x (by simp [Op.operands]))
  | indexAddr t x i => exact indexAddr_agree (hx x (by simp [Op.operands])) (hx i (by simp [Op.operands]))
  | slice t x lo hi mx => exact sliceOp_agree (hx x (by simp [Op.operands])) (fun y hy => hx y (by simp [Op.operands, hy])) (fun y hy => hx y (by simp [Op.operands, hy])) (fun y hy => hx y (by simp [Op.operands, hy]))
  | build t ps => exact build_agree fun p hp => hx p.2 (by simp [Op.operands]; exact ⟨p.1, by simpa using hp⟩)
  | buildSlice t n ps => exact buildSlice_agree fun p hp => hx p.2 (by simp [Op.operands]; exact ⟨p.1, by simpa using hp⟩)
  | typeAssert x s t b => exact assertOp_agree (hx x (by simp [Op.operands]))
  | load t a => exact loadOp_agree (hx a (by simp [Op.operands]))
  | store t a x => exact storeOp_agree (hx a (by simp [Op.operands])) (hx x (by simp [Op.operands]))
  | lookup t m x b => exact lookupOp_agree (hx m (by simp [Op.operands])) (hx x (by simp [Op.operands]))
  | entry x => exact entryOp_agree (hx x (by simp [Op.operands]))
  | box t x => exact boxOp_agree (hx x (by simp [Op.operands]))
  | makeMap t x => exact makeMap_agree fun y hy => hx y (by simp [Op.operands, hy])
  | makeSlice t l c => exact makeSliceOp_agree (hx l (by simp [Op.operands])) (hx c (by simp [Op.operands]))
  | range t x => exact rangeOp_agree (hx x (by simp [Op.operands]))
  | mapUpdate t m x y => exact mapUpdateOp_agree (hx m (by simp [Op.operands])) (hx x (by simp [Op.operands])) (hx y (by simp [Op.operands]))
  | insert t m x y => exact mapUpdateOp_agree (hx m (by simp [Op.operands])) (hx x (by simp [Op.operands])) (hx y (by simp [Op.operands]))
  | next x b => cases b with
    | true => exact nextStr_agree (hx x (by simp [Op.operands]))
    | false => exact nextMap_agree (hx x (by simp [Op.operands]))
  | call c => exact call_agree fun x hm => hx x (by simpa [Op.operands] using hm)
  | extract x i =>
    have e := agree1 (hx x (by simp [Op.operands]))
    show asO ((opd x).f tm) _ = asO ((opd x).f tm') _
    rw [e]
  | nilCheck x =>
    have e := agree1 (hx x (by simp [Op.operands]))
    have key : ∀ z : Tm, (compOp E (.nilCheck x)).g r z h k = known ((opd x).f z) (fun v => match FV.v v with
      | .pointer (some _) => k v h
      | .iface _ _ => k v h
      | .func (.func _) _ _ => k v h
      | _ => none) := fun z => rfl
    rw [key, key, e]
  | sliceToArrayPointer t x =>
    have e := agree1 (hx x (by simp [Op.operands]))
    show (match opd x, E.und t with
      | ⟨f⟩, some (.array n _) => (⟨fun _ tm h k => asSlice (f tm) fun b o l _ => Bool.rec none (k (.p b o) h) (Nat.ble n l && !Nat.beq l 0)⟩ : COp)
      | _, _ => noOp).g r tm h k = (match opd x, E.und t with
      | ⟨f⟩, some (.array n _) => (⟨fun _ tm h k => asSlice (f tm) fun b o l _ => Bool.rec none (k (.p b o) h) (Nat.ble n l && !Nat.beq l 0)⟩ : COp)
      | _, _ => noOp).g r tm' h k
    generalize opd x = ox at e ⊢
    obtain ⟨f⟩ := ox
    dsimp only at e
    cases E.und t with
    | none => rfl
    | some d => cases d <;> first | rfl | (dsimp only; rw [e])
  | makeInterface t x =>
    have e := agree1 (hx x (by simp [Op.operands]))
    show (match opd x, E.und t with
      | _, some (.interface _) => noOp
      | ⟨f⟩, some _ => (⟨fun _ tm h k => known (f tm) fun v => k (.o (.iface t (FV.v v))) h⟩ : COp)
      | _, none => noOp).g r tm h k = (match opd x, E.und t with
      | _, some (.interface _) => noOp
      | ⟨f⟩, some _ => (⟨fun _ tm h k => known (f tm) fun v => k (.o (.iface t (FV.v v))) h⟩ : COp)
      | _, none => noOp).g r tm' h k
    generalize opd x = ox at e ⊢
    obtain ⟨f⟩ := ox
    dsimp only at e
    cases E.und t with
    | none => rfl
    | some d => cases d <;> first | rfl | (dsimp only; rw [e])
  | makeFunc fn a b =>
    have e1 := opds_agree (tm := tm) (tm' := tm') (xs := a.toList) fun x hm => hx x (by simp [Op.operands]; left; simpa using hm)
    have e2 := opds_agree (tm := tm) (tm' := tm') (xs := b.toList) fun x hm => hx x (by simp [Op.operands]; right; simpa using hm)
    cases fn with
    | yield l => rfl
    | _ =>
      show vals ((opds a.toList).f tm) (fun xs => vals ((opds b.toList).f tm) _) = vals ((opds a.toList).f tm') (fun xs => vals ((opds b.toList).f tm') _)
      rw [e1, e2]
  | alloc t =>
    show (allocOp E t).g r tm h k = (allocOp E t).g r tm' h k
    unfold allocOp
    split <;> rfl
  | _ => rfl
end
end Go.FX
namespace Go.FX
variable [Sym]
theorem put_sound {n : Nat} {dst : Option Tmp} {tm : Tm} {x : FV} {k : Tm → R} {L : List (FV × Heap)} (h : (put n dst).f tm x k = some L) :
    ∃ tm', k tm' = some L ∧ (∀ d, dst = some d → d < n ∧ d < tmMost) ∧ (∀ j, j < tmMost → Tm.at tm' j = if dst = some j then x else Tm.at tm j) ∧
      ∀ ρ (a : Act) v', TR ρ tm a.tmps → n ≤ a.tmps.size → FVR ρ x v' → TR ρ tm' (a.put dst v').tmps := by
  cases dst with
  | none =>
    refine ⟨tm, h, fun d hd => (by cases hd), fun j _ => (by simp), fun ρ a v' ht _ _ => ht⟩
  | some t =>
    obtain ⟨h1, h2, tm', h3, h4⟩ := put_f n t tm x k L h
    refine ⟨tm', h4, fun d hd => by cases hd; exact ⟨h1, h2⟩, fun j hj => ?_, fun ρ a v' ht hn hx => ⟨ht.g, fun j hj => ?_⟩⟩
    · rw [h3 j hj]
      by_cases e : j = t
      · subst e; simp
      · rw [if_neg e, if_neg (fun c => e (by cases c; rfl))]
    · rw [h3 j hj]
      show FVR ρ _ ((a.tmps.setIfInBounds t v').getD j undef)
      by_cases e : j = t
      · subst e
        rw [if_pos rfl]
        have hlt : j < a.tmps.size := by omega
        simp [Array.getD, hlt]
        exact hx
      · rw [if_neg e]
        have := ht.t j hj
        have he : (a.tmps.setIfInBounds t v').getD j undef = a.tmps.getD j undef := by
          simp only [Array.getD_eq_getD_getElem?]
          rw [Array.getElem?_setIfInBounds_ne (by omega)]
        rw [he]; exact this
end Go.FX
namespace Go.FX
variable [Sym]
theorem yielded_eq {ops : Array Oper} {tmps : Array Value} {j : Nat} {q : Oper} {d : Tmp} (hq : ops[j]? = some q) (hd : q.dst = some d) :
    yielded ops tmps j = match tmps.getD d undef with | .bool b => some b | _ => none := by
  unfold yielded
  rw [hq]
  show (match (q.dst).bind (tmps[·]?) with | some (.bool b) => some b | _ => none) = _
  rw [hd]
  show (match tmps[d]? with | some (.bool b) => some b | _ => none) = _
  rw [Array.getD_eq_getD_getElem?]
  cases tmps[d]? with
  | none => rfl
  | some v => cases v <;> rfl
theorem guard_sound {ops : Array Oper} {o : Oper} {tm : Tm} {c : Bool → R} {L : List (FV × Heap)} (h : (guardOf ops.toList o).f tm c = some L) :
    ∃ b, c b = some L ∧ ∀ ρ (a : Act), TR ρ tm a.tmps → Region.wanted o (yielded ops a.tmps) = b := by
  unfold guardOf at h
  cases hg : o.guard with
  | none =>
    rw [hg] at h
    exact ⟨true, h, fun ρ a _ => by unfold Region.wanted; rw [hg]⟩
  | some jw =>
    obtain ⟨j, want⟩ := jw
    rw [hg] at h
    dsimp only at h
    cases hj : ops.toList[j]? with
    | none => rw [hj] at h; cases h
    | some q =>
      rw [hj] at h
      dsimp only at h
      have hj' : ops[j]? = some q := by rw [← Array.getElem?_toList]; exact hj
      cases hd : q.dst with
      | none => rw [hd] at h; cases h
      | some d =>
        rw [hd] at h
        dsimp only at h
        have h : (FV.rec (fun _ _ => c false) (fun b => c (b == want)) (fun _ _ => c false) (fun _ _ _ _ => c false) (fun v => match v with | .bool b => c (b == want) | _ => c false) none ((opd (.tmp d)).f tm) : R) = some L := h
        rw [opd_f] at h
        have hw : ∀ ρ (a : Act), TR ρ tm a.tmps → FVR ρ (ev tm (.tmp d)) (a.tmps.getD d undef) := fun ρ a ht => ht.ev (.tmp d)
        have key : ∀ (b : Bool), (∀ ρ (v' : Value), FVR ρ (ev tm (.tmp d)) v' → ((match v' with | .bool b => some b | _ => none : Option Bool) == some want) = b) → ∀ ρ (a : Act), TR ρ tm a.tmps → Region.wanted o (yielded ops a.tmps) = b := by
          intro b hb ρ a ht
          unfold Region.wanted
          rw [hg]
          dsimp only
          rw [yielded_eq hj' hd]
          exact hb ρ _ (hw ρ a ht)
        cases hx : ev tm (.tmp d) with
        | u => rw [hx] at h; cases h
        | i k n => rw [hx] at h key; exact ⟨_, h, key false fun ρ v' hv => by rw [hv.i_inv]; rfl⟩
        | b t => rw [hx] at h key; exact ⟨_, h, key _ fun ρ v' hv => by rw [hv.b_inv]; cases t <;> cases want <;> rfl⟩
        | p k o => rw [hx] at h key; exact ⟨_, h, key false fun ρ v' hv => by obtain ⟨a', e, _⟩ := hv.p_inv; rw [e]; rfl⟩
        | s k o n m => rw [hx] at h key; exact ⟨_, h, key false fun ρ v' hv => by obtain ⟨a', c', e, _⟩ := hv.s_inv; rw [e]; rfl⟩
        | o v =>
          rw [hx] at h key
          cases v with
          | bool t => exact ⟨_, h, key _ fun ρ v' hv => by rw [hv.o_inv.bool_inv]; cases t <;> cases want <;> rfl⟩
          | _ => exact ⟨_, h, key false fun ρ v' hv => by have := hv.o_inv; cases this <;> rfl⟩
end Go.FX
namespace Go.FX
variable [Sym]
/-- What an operation gives, once done. -/
def OpOut (P : Program) (lo : Nat) (k : K) (L : List (FV × Heap)) (ρ : Rho) (h : Heap) (w : World) (v' : Value) (w' : World) : Prop :=
  ∃ v ρ' h' L', FVR ρ' v v' ∧ HR ρ' h' w' ∧ Ext lo ρ h w ρ' h' w' ∧ k v h' = some L' ∧ ∀ x ∈ L', x ∈ L
/-- The fence in a frame: of a function, or of a round. -/
def fence : Option Nat → Fence
  | none => Fence.wide
  | some l => Fence.wide.inRound l
theorem fence_fn (ro : Option Nat) (f : FuncId) : (fence ro).fn f := by cases ro <;> trivial
theorem fence_round (ro : Option Nat) : (fence ro).round = ro := by cases ro <;> rfl
theorem fence_depth (ro : Option Nat) : (fence ro).depth = none := by cases ro <;> rfl
/-- How code is left. -/
def ExR (ex : Ex) (e : Exit) : Prop :=
  match ex with
  | .normal => e = .normal
  | .exit id => e = .exit id
  | .ret => e = .ret
/-- All that a caller may lean on. -/
structure FRok (P : Program) (lo : Nat) (r : FR) : Prop where
  call : ∀ f vs h k L, r.call f vs h k = some L → ∀ ρ (args : Array Value) w, GR ρ → All2 (FVR ρ) vs args.toList → HR ρ h w →
    (callFunc f args).run P w = .ok (.enter f args) w ∧ Calls P f args w fun e w' => ∃ v', e = .returned v' ∧ OpOut P lo k L ρ h w v' w'
  code : ∀ c n tm h k L, r.code c n tm h k = some L → ∀ l m ρ (a : Act) w, TR ρ tm a.tmps → a.tmps.size = n → a.defers = [] → HR ρ h w →
    c.wpIn (Fence.wide.inRound l) m P (fun e a' w' => ∃ ex tm' ρ' h' L', ExR ex e ∧ TR ρ' tm' a'.tmps ∧ a'.tmps.size = n ∧ a'.defers = [] ∧ HR ρ' h' w' ∧ Ext lo ρ h w ρ' h' w' ∧ k ex tm' h' = some L' ∧ ∀ x ∈ L', x ∈ L) a w
section
variable {P : Program} {E : Env} {o : Oper} (ok : EnvOk P E) (qs : EqsOk P E)
theorem wpIn_of_does {ro : Option Nat} {m : Nat} {a : Act} {w w' : World} {v' : Value} {K : Act → World → Prop} {Q : Exit → Act → World → Prop} (hd : ∀ c, o.op ≠ .defer c) (h : Does P o a w v' w') (hK : K (a.put o.dst v') w') : o.wpIn (fence ro) m P a w K Q := by
  refine ⟨fun f _ => fence_fn ro f, ?_⟩
  rw [Oper.semAt_eq _ _ _ hd]
  rcases h with h | ⟨h, h2⟩
  · rw [h]; exact hK
  · rw [h]; subst h2; exact hK
include ok qs in
/-- Every operation that is no call. -/
theorem plain_wp {r : FR} (hnc : isCallOp o.op = false) {ro : Option Nat} {m : Nat} {tm : Tm} {h : Heap} {k : K} {L : List (FV × Heap)} (e : (compOp E o.op).g r tm h k = some L) {ρ : Rho} {a : Act} {w : World} (ht : TR ρ tm a.tmps) (hr : HR ρ h w)
    {K : Act → World → Prop} {Q : Exit → Act → World → Prop} (hK : ∀ v' w', OpOut P E.lo k L ρ h w v' w' → K (a.put o.dst v') w') : o.wpIn (fence ro) m P a w K Q := by
  have hd : ∀ c, o.op ≠ .defer c := fun c hc => by rw [hc] at e; cases e
  have hs := kind_sound (o := o) ok qs r
  unfold KindS at hs
  split at hs
  · obtain ⟨v, e1, e2⟩ := hs r tm h k L e
    obtain ⟨v', e3, e4⟩ := e2 ρ a w ht
    exact wpIn_of_does hd e3 (hK v' w ⟨v, ρ, h, L, e4, hr, .refl _ _ _ _, e1, fun _ hx => hx⟩)
  · obtain ⟨v, e1, e2⟩ := hs r tm h k L e
    obtain ⟨v', e3, e4⟩ := e2 ρ a w ht hr.s
    exact wpIn_of_does hd e3 (hK v' w ⟨v, ρ, h, L, e4, hr, .refl _ _ _ _, e1, fun _ hx => hx⟩)
  · obtain ⟨v, B, e0, e1, e2⟩ := hs r tm h k L e
    obtain ⟨v', ob, i, dr, e3, e4, e5⟩ := e2 ρ a w ht
    exact wpIn_of_does hd e3 (hK v' _ ⟨v, _, _, L, e5 _ (upd_at _ _ _), hr.make e0 rfl (e4 ρ (.refl ρ)), Ext.make hr e0 rfl rfl rfl rfl, e1, fun _ hx => hx⟩)
  · rcases hs with hs | hs
    · rw [hnc] at hs; cases hs
    · obtain ⟨v, v', ρ', h', w', L', e1, e2, e3, e4, e5, e6⟩ := hs tm h k L e ρ a w ht hr
      exact wpIn_of_does hd e1 (hK v' w' ⟨v, ρ', h', L', e2, e3, e4, e5, e6⟩)
end
end Go.FX
namespace Go.FX
variable [Sym]
section
variable {P : Program} {E : Env} {o : Oper}
theorem calls_fence {ro : Option Nat} {m : Nat} {f : FuncId} {args : Array Value} {w : World} {R : Ending → World → Prop} (h : Calls P f args w R) : CallsIn (fence ro) m P f args w R := by
  cases ro with
  | none => exact callsIn_wide.2 h
  | some l => exact CallsIn.inRound l (callsIn_wide.2 h)
theorem enter_wp {lo : Nat} {c : Call} (ho : o.op = .call c) {ro : Option Nat} {m : Nat} {k : K} {L : List (FV × Heap)} {ρ : Rho} {h : Heap} {a : Act} {w : World} {f : FuncId} {args : Array Value}
    (hrun : (execOp a.eval o).run P w = .ok (.enter f args) w) (hc : Calls P f args w fun e w' => ∃ v', e = .returned v' ∧ OpOut P lo k L ρ h w v' w')
    {K : Act → World → Prop} {Q : Exit → Act → World → Prop} (hK : ∀ v' w', OpOut P lo k L ρ h w v' w' → K (a.put o.dst v') w') : o.wpIn (fence ro) m P a w K Q := by
  refine ⟨fun f _ => fence_fn ro f, ?_⟩
  rw [Oper.semAt_eq _ _ _ (fun c hc => by rw [ho] at hc; cases hc), hrun]
  refine ⟨fun hh => (by rw [fence_depth] at hh; cases hh), CallsIn.mono (calls_fence hc) ?_⟩
  rintro e w' ⟨v', rfl, hv⟩
  exact hK v' w' hv
theorem exec_value {c : Call} {f : Operand} (hc : c.callee = .value f) (ho : o.op = .call c) {a : Act} {w : World} {g : Nat} {first captured : Array Value} (hf : a.eval f = .func (.func g) first captured) :
    (execOp a.eval o).run P w = (callFunc g (first ++ c.args.map a.eval ++ captured)).run P w := by
  unfold execOp
  rw [ho]
  simp only [resolve, hc, hf, Deferred.ofValue, Sem.run_bind, Sem.run_pure, Result.andThen_ok, invoke]
theorem args_All2 {ρ : Rho} {tm : Tm} {a : Act} (ht : TR ρ tm a.tmps) (xs : Array Operand) : All2 (FVR ρ) ((opds xs.toList).f tm) (xs.map a.eval).toList := by
  rw [opds_f, map_list]
  exact evs_All2 ht _
theorem ofVs {ρ : Rho} : ∀ {vs vs' : List Value}, VRs ρ vs vs' → All2 (FVR ρ) (vs.map ofV) vs'
  | _, _, .nil => .nil
  | _, _, .cons h hs => .cons (.ofV h) (ofVs hs)
/-- A call of a function that is named. -/
theorem func_wp {r : FR} (fr : FRok P E.lo r) {c : Call} {f : FuncId} (hc : c.callee = .value (.func f)) (ho : o.op = .call c) {ro : Option Nat} {m : Nat} {tm : Tm} {h : Heap} {k : K} {L : List (FV × Heap)}
    (e : r.call f ((opds c.args.toList).f tm) h k = some L) {ρ : Rho} {a : Act} {w : World} (ht : TR ρ tm a.tmps) (hr : HR ρ h w)
    {K : Act → World → Prop} {Q : Exit → Act → World → Prop} (hK : ∀ v' w', OpOut P E.lo k L ρ h w v' w' → K (a.put o.dst v') w') : o.wpIn (fence ro) m P a w K Q := by
  obtain ⟨h1, h2⟩ := fr.call f _ h k L e ρ (c.args.map a.eval) w ht.g (args_All2 ht _) hr
  refine enter_wp ho ?_ h2 hK
  rw [exec_value hc ho (g := f) (first := #[]) (captured := #[]) rfl]
  simpa using h1
end
end Go.FX
namespace Go.FX
variable [Sym]
section
variable {P : Program} {E : Env} {o : Oper}
theorem findMethod_some {name : String} : ∀ {l : List Method} {m : Method}, findMethod name l = some m → l.find? (·.name == name) = some m
  | [], m, h => by cases h
  | x :: xs, m, h => by
    unfold findMethod at h
    rw [List.find?_cons]
    cases hx : (x.name == name) with
    | true => rw [hx, cond_true] at h; exact h
    | false => rw [hx, cond_false] at h; exact findMethod_some h
/-- A call of a method behind an interface. -/
theorem invoke_wp (ok : EnvOk P E) {r : FR} (fr : FRok P E.lo r) {c : Call} {x : Operand} {name : String} (hc : c.callee = .invoke x name) (ho : o.op = .call c) {ro : Option Nat} {n : Nat} {tm : Tm} {h : Heap} {k : K} {L : List (FV × Heap)}
    (e : (invokeOp E (opd x) name c.args.toList).g r tm h k = some L) {ρ : Rho} {a : Act} {w : World} (ht : TR ρ tm a.tmps) (hr : HR ρ h w)
    {K : Act → World → Prop} {Q : Exit → Act → World → Prop} (hK : ∀ v' w', OpOut P E.lo k L ρ h w v' w' → K (a.put o.dst v') w') : o.wpIn (fence ro) n P a w K Q := by
  have e' : asO ((opd x).f tm) (fun v => match v with
    | .iface t v => (match E.und t, T.get E.tt t with
      | some (.pointer _), some i => (match findMethod name i.methods.toList with
        | some m => (match m.path.toList, m.func with
          | [], some (f, true) => r.call f (ofV v :: (opds c.args.toList).f tm) h k
          | _, _ => none)
        | none => none)
      | _, _ => none)
    | _ => none) = some L := e
  obtain ⟨v, e1, e2⟩ := asO_some e'
  rw [opd_f] at e1
  have hx := ht.ev x
  rw [e1] at hx
  have hx' := hx.o_inv
  split at e2
  · rename_i t v0
    split at e2
    · rename_i el i hu hi
      split at e2
      · rename_i m hm
        split at e2
        · rename_i f hp hf
          cases hav : a.eval x <;> rw [hav] at hx' <;> cases hx'
          rename_i v0' hv0
          have hmf : i.methods.find? (·.name == name) = some m := by rw [← Array.find?_toList]; exact findMethod_some hm
          obtain ⟨h1, h2⟩ := fr.call f _ h k L e2 ρ (#[v0'] ++ c.args.map a.eval) w ht.g (by
            have : (#[v0'] ++ c.args.map a.eval).toList = v0' :: (c.args.map a.eval).toList := by simp
            rw [this]
            exact .cons (.ofV hv0) (args_All2 ht _)) hr
          refine enter_wp ho ?_ h2 hK
          unfold execOp
          rw [ho]
          simp only [resolve, hc, Sem.run_bind, Sem.run_pure, Result.andThen_ok, invoke, hav]
          have h0 : (#[Value.iface t v0'] ++ c.args.map a.eval)[0]? = some (.iface t v0') := by rw [Array.getElem?_append_left (by simp)]; rfl
          have hex : (#[Value.iface t v0'] ++ c.args.map a.eval).extract 1 (#[Value.iface t v0'] ++ c.args.map a.eval).size = c.args.map a.eval := by
            apply Array.ext'
            simp
            rw [List.take_of_length_le (by simp)]
          rw [h0]
          dsimp only
          rw [hex]
          unfold callMethod
          have hmeth : ∀ fuel, (method (fuel + 1) t v0' name).run P w = .ok (f, v0') w := by
            intro fuel
            unfold method
            simp only [Sem.run_bind, run_info ok hi, Result.andThen_ok, hmf]
            rw [hp]
            simp only [follow, Sem.run_bind, Sem.run_pure, Result.andThen_ok, hf]
            unfold receiverAt
            simp only [Sem.run_bind, run_und ok hu, Result.andThen_ok]
            rfl
          have hprog : (program).run P w = .ok P w := rfl
          have hfuel : P.types.size + Made.depth = (P.types.size + (Made.depth - 1)) + 1 := by
            have : 0 < Made.depth := by decide
            omega
          simp only [Sem.run_bind, hprog, Result.andThen_ok]
          rw [hfuel, hmeth]
          simp only [Result.andThen_ok]
          exact h1
        · cases e2
      · cases e2
    · cases e2
  · cases e2
end
end Go.FX
namespace Go.FX
variable [Sym]
section
variable {P : Program} {E : Env} {o : Oper}
/-- The block of a loop over a function. -/
theorem loop_at {ρ : Rho} {h : Heap} {w : World} (hr : HRs ρ h w) {l l' : Nat} (hm : MR ρ l l') {st : LoopState} {pd : Option Ex} {fn : Nat} {tm : Tm} {ps : List Tmp} {as bd : Code} {df : Nat} (hk : h.get l = some (.loop st pd fn tm ps as bd df)) :
    ∃ i lp, ρ l = .at l' 0 i ∧ w.heap[l']? = some (.loop lp) ∧ lp.state = st ∧ PendR pd lp.pending ∧ lp.tmps.size = fn ∧ TR ρ tm lp.tmps ∧ lp.params.toList = ps ∧ lp.assign = as ∧ lp.body = bd ∧ MR ρ df lp.defers := by
  have hf : ρ l ≠ .fresh := fun e => by unfold MR at hm; simp only [e] at hm
  obtain ⟨b, s, i, ob, h1, h2, h3⟩ := hr.live hk hf
  obtain ⟨q1, lp, q2, q3⟩ := h3
  unfold MR at hm
  simp only [h1] at hm
  obtain ⟨m1, m2⟩ := hm
  subst m1 m2
  exact ⟨i, lp, h1, by rw [h2, q2], q3⟩
theorem getLoop_run {w : World} {l : Nat} {lp : Loop} (h : w.heap[l]? = some (.loop lp)) : (Instr.getLoop l).run P w = .ok lp w := by
  unfold Instr.getLoop
  simp only [Sem.run_bind, getObj_run (P := P) h (by simp), Result.andThen_ok, Sem.run_pure]
theorem beginRound_run {w : World} {l : Nat} {lp : Loop} (h : w.heap[l]? = some (.loop lp)) (hs : lp.state = .ready) : (Instr.beginRound l).run P w = .ok () { w with heap := w.heap.setIfInBounds l (.loop { lp with state := .busy }) } := by
  unfold Instr.beginRound
  simp only [Sem.run_bind, getLoop_run h, Result.andThen_ok, setObj_run (P := P) (ob' := .loop { lp with state := .busy }) h (by simp), hs]
  rfl
theorem endRound_run {w : World} {l : Nat} {lp : Loop} {j : Option Code} (h : w.heap[l]? = some (.loop lp)) :
    (Instr.endRound l j).run P w = .ok (.bool j.isNone) { w with heap := w.heap.setIfInBounds l (.loop { lp with state := if j.isNone then .ready else .done, pending := j }) } := by
  unfold Instr.endRound
  simp only [Sem.run_bind, getLoop_run h, Result.andThen_ok, setObj_run (P := P) (ob' := .loop { lp with state := if j.isNone then .ready else .done, pending := j }) h (by simp), Sem.run_pure]
theorem endLoop_run {w : World} {l : Nat} {lp : Loop} (h : w.heap[l]? = some (.loop lp)) (hs : lp.state ≠ .busy) :
    (Instr.endLoop l).run P w = .ok lp.pending { w with heap := w.heap.setIfInBounds l (.loop { lp with state := .exhausted }) } := by
  unfold Instr.endLoop
  have hb : (lp.state == .busy) = false := by cases hl : lp.state <;> first | rfl | exact absurd hl hs
  simp only [Sem.run_bind, getLoop_run h, Result.andThen_ok, hb, Bool.false_eq_true, if_false, setObj_run (P := P) (ob' := .loop { lp with state := .exhausted }) h (by simp), Sem.run_pure]
/-- The arguments of a round go to its temporaries. -/
theorem setAll_sound {n : Nat} : ∀ {ts : List Tmp} {vs : List FV} {tm : Tm} {c : Tm → R} {L : List (FV × Heap)}, setAll n ts vs tm c = some L →
    ts.length = vs.length ∧ ∃ tm', c tm' = some L ∧ ∀ ρ (tmps : Array Value) (vs' : List Value), TR ρ tm tmps → n ≤ tmps.size → All2 (FVR ρ) vs vs' →
      TR ρ tm' ((ts.zip vs').foldl (fun tmps p => tmps.setIfInBounds p.1 p.2) tmps) ∧ ((ts.zip vs').foldl (fun tmps p => tmps.setIfInBounds p.1 p.2) tmps).size = tmps.size
  | [], [], tm, c, L, h => ⟨rfl, tm, h, fun ρ tmps vs' ht _ ha => by cases ha; exact ⟨ht, rfl⟩⟩
  | [], _ :: _, tm, c, L, h => by cases h
  | t :: ts, [], tm, c, L, h => by cases h
  | t :: ts, v :: vs, tm, c, L, h => by
    have h' : (put n (some t)).f tm v (fun tm => setAll n ts vs tm c) = some L := h
    obtain ⟨tm1, h1, _, _, h2⟩ := put_sound h'
    obtain ⟨h3, tm', h4, h5⟩ := setAll_sound h1
    refine ⟨by simp [h3], tm', h4, fun ρ tmps vs' ht hn ha => ?_⟩
    cases ha with
    | cons hv hs =>
      rename_i v' vs''
      have := h2 ρ ⟨tmps, []⟩ v' ht hn hv
      have h6 := h5 ρ (tmps.setIfInBounds t v') vs'' this (by simpa using hn) hs
      refine ⟨h6.1, ?_⟩
      rw [List.zip_cons_cons, List.foldl_cons, h6.2]
      simp
end
end Go.FX
namespace Go.FX
variable [Sym]
section
variable {P : Program} {E : Env} {o : Oper}
theorem set_get {α : Type} (a : Array α) (i : Nat) (x : α) (hi : i < a.size) (j : Nat) : (a.setIfInBounds i x)[j]? = if j = i then some x else a[j]? := by
  rw [Array.getElem?_setIfInBounds]
  by_cases e : i = j
  · subst e; simp [hi]
  · rw [if_neg e, if_neg (fun c => e c.symm)]
theorem lt_of_get {α : Type} {a : Array α} {i : Nat} {x : α} (h : a[i]? = some x) : i < a.size := (Array.getElem?_eq_some_iff.1 h).1
/-- The block of a loop is turned. -/
theorem turnLoop {lo : Nat} {ρ : Rho} {h : Heap} {w : World} (hr : HR ρ h w) {l l' : Nat} {i : Info} (hlo : lo ≤ l) (hl : ρ l = .at l' 0 i) {st : LoopState} {pd : Option Ex} {n : Nat} {tm : Tm} {ps : List Tmp} {as bd : Code} {df : Nat}
    {lp : Loop} (h1 : lp.state = st) (h2 : PendR pd lp.pending) (h3 : lp.tmps.size = n) (h4 : TR ρ tm lp.tmps) (h5 : lp.params.toList = ps) (h6 : lp.assign = as) (h7 : lp.body = bd) (h8 : MR ρ df lp.defers) :
    HR ρ (h.put l (.loop st pd n tm ps as bd df)) { w with heap := w.heap.setIfInBounds l' (.loop lp) } ∧ Ext lo ρ h w ρ (h.put l (.loop st pd n tm ps as bd df)) { w with heap := w.heap.setIfInBounds l' (.loop lp) } := by
  obtain ⟨B, ob, g1, g2, g3⟩ := hr.at hl
  have hlt := lt_of_get g2
  have hg := set_get w.heap l' (.loop lp) hlt
  refine ⟨hr.turn hl (by rw [hg, if_pos rfl]) (fun j hj => by rw [hg, if_neg hj]) ⟨rfl, lp, rfl, h1, h2, h3, h4, h5, h6, h7, h8⟩, Ext.turn hr hlo hl (fun j hj => by rw [hg, if_neg hj]) (by simp) rfl rfl rfl⟩
/-- How a round's body is left, and what is pending then. -/
theorem pend_of {ex : Ex} {e : Exit} (h : ExR ex e) (hn : ex ≠ .normal) : ∃ c, PendR (some ex) (some c) ∧ ∀ (P : Program) (l : Nat) (R : Ending → World → Prop) (a : Act) (w : World),
    (∃ v w', (Instr.endRound l (some c)).run P w = .ok v w' ∧ R (.returned v) w') → roundPost P l R e a w := by
  cases ex with
  | normal => exact absurd rfl hn
  | exit id => cases h; exact ⟨.exit id, rfl, fun P l R a w h => h⟩
  | ret => cases h; exact ⟨.ret, rfl, fun P l R a w h => h⟩
/-- A round of a loop over a function. -/
theorem round_in {lo : Nat} {r : FR} (fr : FRok P lo r) {F : Fence} (hF : ∀ f, F.fn f) (hF2 : ∀ l, F.inRound l = Fence.wide.inRound l) {m : Nat} {l l' : Nat} {args : List FV} {h : Heap} {k : K} {L : List (FV × Heap)} (e : roundOp lo r l args h k = some L)
    {ρ : Rho} {w : World} {args' : Array Value} (hm : MR ρ l l') (ha : All2 (FVR ρ) args args'.toList) (hr : HR ρ h w) (hg : GR ρ) :
    ∃ f tmps as bd, (Instr.yield l' args').run P w = .ok (.round l' f tmps as bd) w ∧ RoundIn F m P l' f tmps as bd w fun e w' => ∃ v', e = .returned v' ∧ OpOut P lo k L ρ h w v' w' := by
  unfold roundOp at e
  split at e
  · rename_i pd n tm ps as bd df hk
    obtain ⟨elo, e1⟩ := rec_true e
    have hlo : lo ≤ l := Nat.le_of_ble_eq_true elo
    obtain ⟨i, lp, g1, g2, g3, g4, g5, g6, g7, g8, g9, g10⟩ := loop_at hr.s hm hk
    obtain ⟨s1, tm1, s2, s3⟩ := setAll_sound e1
    obtain ⟨s4, s5⟩ := s3 ρ lp.tmps args'.toList g6 (by omega) ha
    refine ⟨lp.fn, (ps.zip args'.toList).foldl (fun tmps p => tmps.setIfInBounds p.1 p.2) lp.tmps, as, bd, ?_, ?_⟩
    · unfold Instr.yield
      have hsz : args'.size = lp.params.size := by
        have := ha.length
        rw [← Array.length_toList, ← this, ← s1, ← g7, Array.length_toList]
      simp only [Sem.run_bind, getLoop_run (P := P) g2, Result.andThen_ok, hsz, ne_eq, not_true_eq_false, if_false, Sem.run_pure]
      rw [← g7, g8, g9]
      congr 2
      rw [← Array.foldl_toList, Array.toList_zip]
    · refine roundIn_of_wpIn (hF _) ?_
      rw [hF2]
      have hcode := fr.code as n tm1 h _ L s2 l' m ρ ⟨(ps.zip args'.toList).foldl (fun tmps p => tmps.setIfInBounds p.1 p.2) lp.tmps, []⟩ w s4 (by rw [← g5]; exact s5) rfl hr
      refine wpIn_mono hcode ?_
      rintro e0 a0 w0 ⟨ex, tm2, ρ1, h1, L1, q1, q2, q3, q3', q4, q5, q6, q7⟩
      cases ex with
      | exit id => cases q6
      | ret => cases q6
      | normal =>
        cases q1
        dsimp only at q6
        split at q6
        · rename_i pd1 n1 tm1' ps1 as1 bd1 df1 hk1
          obtain ⟨i1, lp1, p1, p2, p3, p4, p5, p6, p7, p8, p9, p10⟩ := loop_at q4.s (hm.later q5.later) hk1
          obtain ⟨t1, t2⟩ := turnLoop (lo := lo) q4 (lp := { lp1 with state := .busy }) hlo p1 rfl p4 p5 p6 p7 p8 p9 p10
          refine ⟨_, beginRound_run p2 p3, ?_⟩
          have hbody := fr.code bd n tm2 _ _ L1 q6 l' m ρ1 a0 _ q2 q3 q3' t1
          refine wpIn_mono hbody ?_
          rintro e2 a2 w2 ⟨ex2, tm3, ρ2, h2, L2, u1, u2, u3, u3', u4, u5, u6, u7⟩
          try dsimp only at u6
          have hx := (q5.trans t2).trans u5
          split at u6
          · rename_i st2 pd2 n2 tm2' ps2 as2 bd2 df2 hk2
            obtain ⟨i2, lp2, y1, y2, y3, y4, y5, y6, y7, y8, y9, y10⟩ := loop_at u4.s (hm.later hx.later) hk2
            cases ex2 with
            | normal =>
              cases u1
              obtain ⟨z1, z2⟩ := turnLoop (lo := lo) u4 (lp := { lp2 with state := .ready, pending := none }) (pd := none) hlo y1 rfl rfl y5 y6 y7 y8 y9 y10
              exact ⟨_, _, endRound_run (j := none) y2, _, rfl, .b true, ρ2, _, L2, .bool _, z1, hx.trans z2, u6, fun x hx => q7 x (u7 x hx)⟩
            | exit id =>
              obtain ⟨c, c1, c2⟩ := pend_of u1 (by simp)
              obtain ⟨z1, z2⟩ := turnLoop (lo := lo) u4 (lp := { lp2 with state := .done, pending := some c }) (pd := some (.exit id)) hlo y1 rfl c1 y5 y6 y7 y8 y9 y10
              exact c2 _ _ _ _ _ ⟨_, _, endRound_run (j := some c) y2, _, rfl, .b false, ρ2, _, L2, .bool _, z1, hx.trans z2, u6, fun x hx => q7 x (u7 x hx)⟩
            | ret =>
              obtain ⟨c, c1, c2⟩ := pend_of u1 (by simp)
              obtain ⟨z1, z2⟩ := turnLoop (lo := lo) u4 (lp := { lp2 with state := .done, pending := some c }) (pd := some .ret) hlo y1 rfl c1 y5 y6 y7 y8 y9 y10
              exact c2 _ _ _ _ _ ⟨_, _, endRound_run (j := some c) y2, _, rfl, .b false, ρ2, _, L2, .bool _, z1, hx.trans z2, u6, fun x hx => q7 x (u7 x hx)⟩
          · cases u6
        · cases q6
  · cases e
end
end Go.FX
namespace Go.FX
variable [Sym]
section
variable {P : Program} {E : Env} {o : Oper}
theorem round_wp {lo : Nat} {c : Call} (ho : o.op = .call c) {ro : Option Nat} {m : Nat} {k : K} {L : List (FV × Heap)} {ρ : Rho} {h : Heap} {a : Act} {w : World} {l : Nat} {f : FuncId} {tmps : Array Value} {as bd : Code}
    (hrun : (execOp a.eval o).run P w = .ok (.round l f tmps as bd) w) (hc : RoundIn (fence ro) (m - 1) P l f tmps as bd w fun e w' => ∃ v', e = .returned v' ∧ OpOut P lo k L ρ h w v' w')
    {K : Act → World → Prop} {Q : Exit → Act → World → Prop} (hK : ∀ v' w', OpOut P lo k L ρ h w v' w' → K (a.put o.dst v') w') : o.wpIn (fence ro) m P a w K Q := by
  refine ⟨fun f _ => fence_fn ro f, ?_⟩
  rw [Oper.semAt_eq _ _ _ (fun c hc => by rw [ho] at hc; cases hc), hrun]
  refine ⟨fun hh => (by rw [fence_depth] at hh; cases hh), RoundIn.mono hc ?_⟩
  rintro e w' ⟨v', rfl, hv⟩
  exact hK v' w' hv
/-- What a value of a function does when it is called. -/
theorem callVal_some {lo : Nat} {r : FR} {f : FV} {args : List FV} {h : Heap} {k : K} {L : List (FV × Heap)} (hlo : E.lo = lo) (e : callVal E r f args h k = some L) :
    (∃ g first captured, f = .o (.func (.func g) first captured) ∧ r.call g (first.toList.map ofV ++ args ++ captured.toList.map ofV) h k = some L) ∨
    (∃ l first captured, f = .o (.func (.yield l) first captured) ∧ first.toList = [] ∧ roundOp lo r l args h k = some L) := by
  subst hlo
  unfold callVal at e
  obtain ⟨v, e1, e2⟩ := asO_some e
  subst e1
  split at e2
  · exact .inl ⟨_, _, _, rfl, e2⟩
  · rename_i l first captured
    split at e2
    · rename_i hf; exact .inr ⟨l, first, captured, rfl, hf, e2⟩
    · cases e2
  · cases e2
theorem toList_nil {α : Type} {a : Array α} (h : a.toList = []) : a = #[] := by
  cases a with
  | mk l => simp at h; subst h; rfl
theorem fence_in (ro : Option Nat) (l : Nat) : (fence ro).inRound l = Fence.wide.inRound l := by cases ro <;> rfl
/-- A call of a value. -/
theorem value_wp {r : FR} (fr : FRok P E.lo r) {c : Call} {f : Operand} (hc : c.callee = .value f) (ho : o.op = .call c) {ro : Option Nat} {m : Nat} {tm : Tm} {h : Heap} {k : K} {L : List (FV × Heap)}
    (e : callVal E r ((opd f).f tm) ((opds c.args.toList).f tm) h k = some L) {ρ : Rho} {a : Act} {w : World} (ht : TR ρ tm a.tmps) (hr : HR ρ h w)
    {K : Act → World → Prop} {Q : Exit → Act → World → Prop} (hK : ∀ v' w', OpOut P E.lo k L ρ h w v' w' → K (a.put o.dst v') w') : o.wpIn (fence ro) m P a w K Q := by
  have hf := ht.ev f
  rw [← opd_f] at hf
  rcases callVal_some rfl e with ⟨g, first, captured, e1, e2⟩ | ⟨l, first, captured, e1, e2, e3⟩
  · rw [e1] at hf
    have hf' := hf.o_inv
    cases hav : a.eval f <;> rw [hav] at hf' <;> cases hf'
    rename_i fn' first' captured' hfn hx hy
    have hfn' : fn' = Fn.func g := hfn
    subst hfn'
    obtain ⟨h1, h2⟩ := fr.call g _ h k L e2 ρ (_ ++ c.args.map a.eval ++ _) w ht.g (by
      simp only [Array.toList_append]
      exact ((ofVs hx).append (args_All2 ht _)).append (ofVs hy)) hr
    exact enter_wp ho (by rw [exec_value hc ho hav]; exact h1) h2 hK
  · rw [e1] at hf
    have hf' := hf.o_inv
    cases hav : a.eval f <;> rw [hav] at hf' <;> cases hf'
    rename_i fn' first' captured' hfn hx hy
    obtain ⟨l', hl, hm⟩ := hfn
    subst hl
    rw [e2] at hx
    have hx0 := hx.length
    obtain ⟨f, tmps, as, bd, q1, q2⟩ := round_in (m := m - 1) fr (F := fence ro) (fence_fn ro) (fence_in ro) e3 (args' := c.args.map a.eval) hm (args_All2 ht _) hr ht.g
    refine round_wp ho ?_ q2 hK
    unfold execOp
    rw [ho]
    have h0 : first' = #[] := toList_nil (List.eq_nil_of_length_eq_zero hx0.symm)
    subst h0
    simp only [resolve, hc, hav, Deferred.ofValue, Sem.run_bind, Sem.run_pure, Result.andThen_ok, invoke]
    simpa using q1
/-- Every operation. -/
theorem op_wp (ok : EnvOk P E) (qs : EqsOk P E) {r : FR} (fr : FRok P E.lo r) {ro : Option Nat} {m : Nat} {tm : Tm} {h : Heap} {k : K} {L : List (FV × Heap)} (e : (compOp E o.op).g r tm h k = some L) {ρ : Rho} {a : Act} {w : World} (ht : TR ρ tm a.tmps) (hr : HR ρ h w)
    {K : Act → World → Prop} {Q : Exit → Act → World → Prop} (hK : ∀ v' w', OpOut P E.lo k L ρ h w v' w' → K (a.put o.dst v') w') : o.wpIn (fence ro) m P a w K Q := by
  cases hcall : isCallOp o.op with
  | false => exact plain_wp ok qs hcall e ht hr hK
  | true =>
    cases ho : o.op <;> rw [ho] at hcall <;> try cases hcall
    rename_i c
    rw [ho] at e
    cases hc : c.callee with
    | builtin b => rw [isCallOp] at hcall; simp [hc] at hcall
    | invoke x name =>
      have e' : (callOp E c).g r tm h k = some L := e
      unfold callOp at e'
      simp only [hc] at e'
      exact invoke_wp ok fr hc ho e' ht hr hK
    | value f =>
      have e' : (callOp E c).g r tm h k = some L := e
      unfold callOp at e'
      simp only [hc] at e'
      cases f with
      | func f =>
        simp only [] at e'
        exact func_wp fr hc ho e' ht hr hK
      | _ =>
        simp only [] at e'
        exact value_wp fr hc ho e' ht hr hK
end
end Go.FX
namespace Go.FX
variable [Sym]
/-- What a region gives. -/
def RegOut (lo n : Nat) (D : List Deferred) (k : Tm → Heap → R) (L : List (FV × Heap)) (ρ : Rho) (h : Heap) (w : World) (a' : Act) (w' : World) : Prop :=
  ∃ tm' ρ' h' L', TR ρ' tm' a'.tmps ∧ a'.tmps.size = n ∧ a'.defers = D ∧ HR ρ' h' w' ∧ Ext lo ρ h w ρ' h' w' ∧ k tm' h' = some L' ∧ ∀ x ∈ L', x ∈ L
theorem put_size (a : Act) (d : Option Tmp) (v : Value) : (a.put d v).tmps.size = a.tmps.size := by
  cases d with
  | none => rfl
  | some t => simp [Act.put]
theorem put_defers' (a : Act) (d : Option Tmp) (v : Value) : (a.put d v).defers = a.defers := by
  cases d <;> rfl
section
variable {P : Program} {E : Env} (ok : EnvOk P E) (qs : EqsOk P E)
/-- Not to be done. -/
theorem step1_some {n : Nat} {ops : List Oper} {o : Oper} {r : FR} {tm : Tm} {h : Heap} {k : Tm → Heap → R} {L : List (FV × Heap)} (e : (step1 E n ops o).g r tm h k = some L) :
    (guardOf ops o).f tm (fun b => Bool.rec ((put n o.dst).f tm (.o undef) fun tm => k tm h) ((compOp E o.op).g r tm h fun v h => (put n o.dst).f tm v fun tm => k tm h) b) = some L := by
  unfold step1 at e
  generalize compOp E o.op = G at e ⊢
  generalize put n o.dst = p at e ⊢
  obtain ⟨G⟩ := G
  obtain ⟨p⟩ := p
  cases hg : o.guard with
  | none =>
    rw [hg] at e
    unfold guardOf
    rw [hg]
    exact e
  | some jw =>
    rw [hg] at e
    generalize guardOf ops o = go at e ⊢
    obtain ⟨w⟩ := go
    exact e
include ok qs in
theorem step1_wp {n : Nat} {ops : Array Oper} {o : Oper} {r : FR} (fr : FRok P E.lo r) {ro : Option Nat} {m : Nat} {tm : Tm} {h : Heap} {k : Tm → Heap → R} {L : List (FV × Heap)} (e : (step1 E n ops.toList o).g r tm h k = some L)
    {ρ : Rho} {a : Act} {w : World} (ht : TR ρ tm a.tmps) (hn : a.tmps.size = n) (hr : HR ρ h w) {K : Act → World → Prop} {Q : Exit → Act → World → Prop} (hK : ∀ a' w', RegOut E.lo n a.defers k L ρ h w a' w' → K a' w') :
    if Region.wanted o (yielded ops a.tmps) = true then o.wpIn (fence ro) m P a w K Q else (∀ f, o.about P w a.eval = some f → (fence ro).fn f) ∧ K (a.put o.dst undef) w := by
  obtain ⟨b, e1, e2⟩ := guard_sound (step1_some e)
  rw [e2 ρ a ht]
  cases b with
  | false =>
    rw [if_neg (by decide)]
    have e1' : (put n o.dst).f tm (.o undef) (fun tm => k tm h) = some L := e1
    obtain ⟨tm', p1, p2, p3, p4⟩ := put_sound e1'
    exact ⟨fun f _ => fence_fn ro f, hK _ _ ⟨tm', ρ, h, L, p4 ρ a undef ht (by omega) undef_VR, by rw [put_size]; exact hn, put_defers' _ _ _, hr, .refl _ _ _ _, p1, fun _ hx => hx⟩⟩
  | true =>
    rw [if_pos rfl]
    have e1' : (compOp E o.op).g r tm h (fun v h => (put n o.dst).f tm v fun tm => k tm h) = some L := e1
    refine op_wp ok qs fr e1' ht hr fun v' w' hv => ?_
    obtain ⟨v, ρ', h', L', q1, q2, q3, q4, q5⟩ := hv
    obtain ⟨tm', p1, p2, p3, p4⟩ := put_sound q4
    exact hK _ _ ⟨tm', ρ', h', L', p4 ρ' a v' (ht.later q3.later) (by omega) q1, by rw [put_size]; exact hn, put_defers' _ _ _, q2, q3, p1, q5⟩
include ok qs in
theorem seqOps_wp {n : Nat} {ops : Array Oper} {r : FR} (fr : FRok P E.lo r) {ro : Option Nat} {m : Nat} {k : Tm → Heap → R} {Q : Exit → Act → World → Prop} : ∀ (l : List Oper) {tm : Tm} {h : Heap} {L : List (FV × Heap)}, (seqOps E n ops.toList l).g r tm h k = some L →
    ∀ {ρ : Rho} {a : Act} {w : World}, TR ρ tm a.tmps → a.tmps.size = n → HR ρ h w → (∀ a' w', RegOut E.lo n a.defers k L ρ h w a' w' → Q .normal a' w') → wpListIn (fence ro) m P ops Q l a w
  | [], tm, h, L, e, ρ, a, w, ht, hn, hr, hQ => hQ a w ⟨tm, ρ, h, L, ht, hn, rfl, hr, .refl _ _ _ _, e, fun _ hx => hx⟩
  | o :: os, tm, h, L, e, ρ, a, w, ht, hn, hr, hQ => by
    have e' : (step1 E n ops.toList o).g r tm h (fun tm h => (seqOps E n ops.toList os).g r tm h k) = some L := by
      cases os with
      | nil => exact e
      | cons x xs =>
        have : (chain (step1 E n ops.toList o) (seqOps E n ops.toList (x :: xs))).g r tm h k = some L := e
        unfold chain at this
        exact this
    refine wpListIn_step fun K hK => ?_
    refine step1_wp ok qs fr e' ht hn hr fun a' w' ho => hK _ _ ?_
    obtain ⟨tm', ρ', h', L', q1, q2, q3, q4, q5, q6, q7⟩ := ho
    refine seqOps_wp fr os q6 q1 q2 q4 fun a2 w2 ho2 => hQ _ _ ?_
    obtain ⟨tm2, ρ2, h2, L2, u1, u2, u3, u4, u5, u6, u7⟩ := ho2
    exact ⟨tm2, ρ2, h2, L2, u1, u2, by rw [u3, q3], u4, q5.trans u5, u6, fun x hx => q7 x (u7 x hx)⟩
end
end Go.FX
