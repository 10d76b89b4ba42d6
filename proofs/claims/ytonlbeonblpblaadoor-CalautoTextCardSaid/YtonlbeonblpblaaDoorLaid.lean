/-
  From a row's condition on the package's variables to what the contracts ask: the table of units, the library's table of powers of ten. Condition: the variables read as listed.
-/
import Derived.Test.YtonlbeonblpblaaDoorRows
import Derived.Test.YtonlbeonblpblaaDoorItoa
import Derived.ProofKit
import Derived.LaidMore
import Derived.Stop.Joined
import Derived.Stop.LaidErr
import Derived.Maps.Keyed
import Derived.Lib.LaidTab
namespace Go.Proofs.YtonlbeonblpblaaDoor.All
open Go.RowKit Go.ChangeShapes Go.WideShapes Go.ChangeAt Go.WideMaps Go.WideElems
set_option linter.unusedVariables false
set_option linter.unusedSimpArgs false

theorem gUnits : Tryd.prog.globalNamed "erewhile/caltok.units" = some 0 := by kernel_rfl
theorem tUnits : (Tryd.prog.globals[0]?).map (·.type) = some 108 := by kernel_rfl
theorem wf_u8 {c : Int} (h0 : 0 ≤ c) (h1 : c ≤ 255) : (Lit.int .u8 c).wf = true := by
  simp [Lit.wf, IntKind.min, IntKind.max, IntKind.signed, IntKind.bits]
  omega
theorem atKey_units (c : Int) : (Rows.laid_erewhile_caltok_units (H := Unit)).atKey (.int .u8 c) .nil = if isUnit c = true then .lit (.int .i64 (unit c)) else .nil := by
  unfold Rows.laid_erewhile_caltok_units DataW.atKey isUnit unit
  by_cases h1 : c = 100
  · subst h1; rfl
  · by_cases h2 : c = 104
    · subst h2; rfl
    · by_cases h3 : c = 109
      · subst h3; rfl
      · have e1 : ¬ (100 : Int) = c := fun h => h1 h.symm
        have e2 : ¬ (104 : Int) = c := fun h => h2 h.symm
        have e3 : ¬ (109 : Int) = c := fun h => h3 h.symm
        simp [List.find?, Lit.sameKey, h1, h2, h3, e1, e2, e3]

set_option maxRecDepth 100000 in
theorem units_of {W : World} (h : laidMet Tryd.prog [("erewhile/caltok.units", Rows.laid_erewhile_caltok_units)] W) : Units W := by
  obtain ⟨ps, ⟨g0, t0, cs0, f0, p0, q0, hg0, ht0, hv0, hd0, _, _⟩, _, _⟩ := h
  obtain rfl := Option.some.inj (gUnits.symm.trans hg0)
  obtain rfl := Option.some.inj (tUnits.symm.trans ht0)
  rcases open_map Tryd.underlying108 hd0 with ⟨_, hx⟩ | ⟨bm, es, clock, m, rfl, hcs, hb, _, F, hx⟩
  · simp [Rows.laid_erewhile_caltok_units] at hx
  simp only [Prod.mk.injEq] at hx
  have hcell : W.cell? ⟨0, 0, none⟩ = some (.map (some bm)) := by
    have := World.var?_cell hg0 hv0 0
    rw [Array.eq_one_of_toList hcs] at this
    simpa using this
  refine ⟨bm, es, clock, hcell, hb, fun W' hW' c h0 h1 => ?_⟩
  have zero : (zeroValue 3).run Tryd.prog W' = .ok (.int .i64 0) W' := by kernel_rfl
  rcases Maps.fit_look (w := W') true (Maps.int_keyed Tryd.underlying5) Tryd.underlying108 zero hW' F (Maps.keyOf_int_mk Tryd.underlying5 (wf_u8 h0 h1)) with ⟨hrun, _, hat⟩ | ⟨e0, y, _, _, hrun, hRv, hat, _⟩
  · have := hat .nil
    rw [← hx.1, atKey_units] at this
    cases hu : isUnit c with
    | true => rw [hu] at this; simp at this
    | false =>
      have hz : unit c = 0 := by
        unfold isUnit at hu
        simp at hu
        unfold unit
        rw [if_neg hu.1, if_neg hu.2.1, if_neg hu.2.2]
      rw [hz]
      exact hrun
  · obtain ⟨r, he, rfl, _⟩ := elemAt_int Tryd.underlying3 hRv
    have := hat .nil
    rw [← hx.1, atKey_units] at this
    cases hu : isUnit c with
    | false => rw [hu] at this; simp at this
    | true =>
      rw [hu] at this
      simp only [if_true, DataW.lit.injEq, Lit.int.injEq, true_and] at this
      rw [hrun, he, this]
      rfl
theorem gPow : Tryd.prog.globalNamed "internal/strconv.uint64pow10" = some 1 := by kernel_rfl
theorem tPow : (Tryd.prog.globals[1]?).map (·.type) = some 140 := by kernel_rfl
theorem pow_data : Rows.laid_internal_strconv_uint64pow10 (H := Unit) = Lib.tabData .u64 Lib.pow10Tab := by kernel_rfl
theorem units_tab_of {W : World} (h : laidMet Tryd.prog [("math/bits.deBruijn32tab", Rows.laid_math_bits_deBruijn32tab), ("math/bits.deBruijn64tab", Rows.laid_math_bits_deBruijn64tab), ("internal/strconv.uint64pow10", Rows.laid_internal_strconv_uint64pow10), ("erewhile/caltok.units", Rows.laid_erewhile_caltok_units)] W) : Units W ∧ Tab W := by
  have h2 := h.tail.tail
  refine ⟨units_of h2.tail, ?_⟩
  rw [pow_data] at h2
  exact Lib.tabIs_of_head gPow tPow Tryd.underlying140 Tryd.underlying24 (by kernel_rfl) (by kernel_rfl) h2
end Go.Proofs.YtonlbeonblpblaaDoor.All
