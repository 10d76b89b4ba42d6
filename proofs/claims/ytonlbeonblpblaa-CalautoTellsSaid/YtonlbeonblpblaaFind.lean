/-
  Where a number stands in a table: the comparison, the search by halves, find; a moment's minute. No condition but that the table lies as its row says, its numbers rise, and it is short.
-/
import Derived.Test.YtonlbeonblpblaaTab
import Derived.Test.YtonlbeonblpblaaProg
import Derived.WalkKit
import Derived.RowKit3
import Derived.Deep.QuietTactic
import Derived.BigQuiet
import Derived.Deep.RegionHeld3
import Derived.Shelf.SlSortCmp.Kit1
import Derived.Deep.LoopGhost
namespace Go.Proofs.Ytonlbeonblpblaa.All
open Go.RowKit Go.Proofs.YtonlbeonblpblaaW.PrintWords Go.Proofs.YtonlbeonblpblaaW.PrintLast Go.Proofs.YtonlbeonblpblaaW.PrintMore Go.Proofs.Ytonlbeonblpblaa.Wd
set_option linter.unusedVariables false
set_option linter.unusedSimpArgs false
def cmpI (x num : Int) : Int := if x < num then -1 else if num < x then 1 else 0
set_option maxRecDepth 100000 in
theorem cmp_calls (x : It) (num : Int) (w : World) : Calls Try.prog 49 #[.agg #[.int .u64 x.n, .int .i64 x.m, .bool x.o], .int .u64 num] w fun e w' => e = .returned (.int .i64 (cmpI x.n num)) ∧ Below w.heap.size w w' := by
  by_cases h1 : x.n < num
  · have H1 := Lib.hid h1
    go_enter Try.func49, Try.ntmps49
    go_wp2
    go_ret
    exact ⟨ret_i (by have := H1.out; unfold cmpI; rw [if_pos (by omega)]), below_alloc (Below.refl _ _) _⟩
  · by_cases h2 : num < x.n
    · have H1 := Lib.hid h1
      have H2 := Lib.hid h2
      go_enter Try.func49, Try.ntmps49
      go_wp2
      go_ret
      exact ⟨ret_i (by have := H1.out; have := H2.out; unfold cmpI; rw [if_neg (by omega), if_pos (by omega)]), below_alloc (Below.refl _ _) _⟩
    · have H1 := Lib.hid h1
      have H2 := Lib.hid h2
      go_enter Try.func49, Try.ntmps49
      go_wp2
      go_ret
      exact ⟨ret_i (by have := H1.out; have := H2.out; unfold cmpI; rw [if_neg (by omega), if_neg (by omega)]), below_alloc (Below.refl _ _) _⟩
set_option maxRecDepth 100000 in
set_option maxHeartbeats 2000000 in
theorem search_calls {M : List It} (hu : Up M) {A : Option Addr} {c : Nat} {w : World} (hR : ItRow w A M) (hl : M.length ≤ 1000) (num : Int) :
    Calls Try.prog 48 #[.slice A M.length c, .int .u64 num, .func (.func 49) #[] #[]] w fun e w' => e = .returned (.tuple #[.int .i64 (lb M num : Nat), .bool (hit M num)]) ∧ Below w.heap.size w w' := by
  replace hR := Lib.hid hR
  replace hu := Lib.hid hu
  have CC := Lib.hid (fun (x : It) (w : World) => cmp_calls x num w)
  go_enter Try.func48, Try.ntmps48
  go_wp2
  go_loopw [9, 10] (fun v9 v10 wr => ∃ lo hi : Nat, v9 = .int .i64 lo ∧ v10 = .int .i64 hi ∧ lo ≤ hi ∧ hi ≤ M.length ∧ Hid (Below w.heap.size w wr) ∧ Hid ((∀ t (h : t < M.length), t < lo → M[t].n < num) ∧ (∀ t (h : t < M.length), hi ≤ t → num ≤ M[t].n))) (fun v9 v10 _ => (intOf v10).toNat - (intOf v9).toNat)
  case atStart => exact ⟨0, M.length, rfl, rfl, Nat.zero_le _, Nat.le_refl _, Lib.hid (Below.refl _ _), Lib.hid ⟨fun t _ h => absurd h (Nat.not_lt_zero _), fun t h1 h2 => by omega⟩⟩
  case round =>
    obtain ⟨lo, hi, rfl, rfl, hlh, hin, HB, I⟩ := hrel
    by_cases hlt : lo < hi
    · have hm : (lo + hi) / 2 < M.length := by omega
      obtain ⟨q, rfl, hq, hc⟩ := (hR.out.below HB.out) (by omega)
      obtain ⟨e0, e1, e2⟩ := hc ((lo + hi) / 2) hm
      clear hc
      generalize hx : M[(lo + hi) / 2] = x at *
      have HX := Lib.hid hx
      clear hx
      by_cases hy : x.n < num
      · have hk : decide (cmpI x.n num < 0) = true := by unfold cmpI; rw [if_pos hy]; rfl
        have I2 := Lib.hid (show (∀ t (h : t < M.length), t < (lo + hi) / 2 + 1 → M[t].n < num) ∧ (∀ t (h : t < M.length), hi ≤ t → num ≤ M[t].n) from ⟨fun t h ht => by
          by_cases e : t = (lo + hi) / 2
          · subst e; rw [HX.out]; exact hy
          · have := hu.out t ((lo + hi) / 2) h hm (by omega)
            rw [HX.out] at this
            omega, I.out.2⟩)
        clear hy
        go_wp2_with (go_at_call 49; refine (CC.out x _).mono ?_; rintro e w3 ⟨rfl, hb3⟩; replace HB := Lib.hid (HB.out.trans (hb3.mono HB.out.size)); clear hb3)
        go_roundw
        case rel => exact ⟨(lo + hi) / 2 + 1, hi, by rw [show ((lo : Int) + (hi : Int)) / 2 + 1 = (((lo + hi) / 2 + 1 : Nat) : Int) by omega], rfl, by omega, hin, HB, I2⟩
        case measure => simp [intOf]; omega
      · have hk : decide (cmpI x.n num < 0) = false := by
          unfold cmpI
          rw [if_neg hy]
          split <;> rfl
        have I2 := Lib.hid (show (∀ t (h : t < M.length), t < lo → M[t].n < num) ∧ (∀ t (h : t < M.length), (lo + hi) / 2 ≤ t → num ≤ M[t].n) from ⟨I.out.1, fun t h ht => by
          by_cases e : t = (lo + hi) / 2
          · subst e; rw [HX.out]; omega
          · have := hu.out ((lo + hi) / 2) t hm h (by omega)
            rw [HX.out] at this
            omega⟩)
        clear hy
        go_wp2_with (go_at_call 49; refine (CC.out x _).mono ?_; rintro e w3 ⟨rfl, hb3⟩; replace HB := Lib.hid (HB.out.trans (hb3.mono HB.out.size)); clear hb3)
        go_roundw
        case rel => exact ⟨lo, (lo + hi) / 2, rfl, by rw [show ((lo : Int) + (hi : Int)) / 2 = (((lo + hi) / 2 : Nat) : Int) by omega], by omega, by omega, HB, I2⟩
        case measure => simp [intOf]; omega
    · obtain rfl : lo = hi := by omega
      have HL := Lib.hid (lb_eq hin (fun t h ht => I.out.1 t h ht) (fun h => by have := I.out.2 lo h (Nat.le_refl _); omega))
      by_cases hn : lo < M.length
      · obtain ⟨q, rfl, hq, hc⟩ := (hR.out.below HB.out) (by omega)
        obtain ⟨e0, e1, e2⟩ := hc lo hn
        clear hc
        have HH := Lib.hid (show hit M num = (M[lo].n == num) by unfold hit; rw [HL.out, List.getElem?_eq_getElem hn])
        have hge := I.out.2 lo hn (Nat.le_refl _)
        generalize M[lo] = x at *
        have HK := Lib.hid (show (cmpI x.n num == 0) = (x.n == num) by
          unfold cmpI
          rw [if_neg (by omega)]
          by_cases e : num < x.n
          · rw [if_pos e]
            have : (x.n == num) = false := by simp; omega
            rw [this]; rfl
          · rw [if_neg e]
            have : (x.n == num) = true := by simp; omega
            rw [this]; rfl)
        clear hge
        go_wp2_with (go_at_call 49; refine (CC.out x _).mono ?_; rintro e w3 ⟨rfl, hb3⟩; replace HB := Lib.hid (HB.out.trans (hb3.mono HB.out.size)); clear hb3)
        go_ret2
        exact ⟨by rw [HL.out, HH.out, ← HK.out]; rfl, HB.out⟩
      · obtain rfl : lo = M.length := by omega
        have HH := Lib.hid (show hit M num = false by unfold hit; rw [HL.out, List.getElem?_eq_none (Nat.le_refl _)])
        go_wp2
        go_ret2
        exact ⟨by rw [HL.out, HH.out]; rfl, HB.out⟩
theorem tab_keep {w w2 : World} {base b : Nat} {A : Option Addr} {c : Nat} {M : List It} (h : TAt w base b A c M) (hb : Below w.heap.size w w2) : TAt w2 base b A c M := h.below hb
set_option maxRecDepth 100000 in
theorem find_calls {M : List It} (hu : Up M) {A : Option Addr} {base b c : Nat} {w : World} (h : TAt w base b A c M) (hl : M.length ≤ 1000) (num : Int) :
    Calls Try.prog 40 #[.pointer (some ⟨b, 0, none⟩), .int .u64 num] w fun e w' => e = .returned (.tuple #[.int .i64 (lb M num : Nat), .bool (hit M num)]) ∧ Below w.heap.size w w' := by
  have SC := Lib.hid (search_calls hu (c := c) h.row hl num)
  have hc := h.cell
  clear h
  go_enter Try.func40, Try.ntmps40
  go_wp2_with (go_at_call 48; refine SC.out.mono ?_; rintro e w3 ⟨rfl, hb3⟩; replace hb3 := Lib.hid hb3)
  go_ret2
  exact ⟨rfl, hb3.out⟩
set_option maxRecDepth 100000 in
theorem find_nil (num : Int) (w : World) : Calls Try.prog 40 #[.pointer none, .int .u64 num] w fun e w' => e = .returned (.tuple #[.int .i64 0, .bool false]) ∧ w = w' := by
  go_enter Try.func40, Try.ntmps40
  go_wp2
  go_ret2
  exact ⟨rfl, rfl⟩
/-- A moment's minute, 0: it is not there. -/
def minM (M : List It) (num : Int) : Int := match M[lb M num]? with | some x => if x.n == num then x.m else 0 | none => 0
theorem hit_at {M : List It} {num : Int} (h : hit M num = true) : ∃ hl : lb M num < M.length, M[lb M num].n = num ∧ minM M num = M[lb M num].m := by
  unfold hit at h
  by_cases hl : lb M num < M.length
  · rw [List.getElem?_eq_getElem hl] at h
    refine ⟨hl, by simpa using h, ?_⟩
    unfold minM
    rw [List.getElem?_eq_getElem hl]
    simp only [h, if_true]
  · rw [List.getElem?_eq_none (by omega)] at h
    cases h
theorem hit_no {M : List It} {num : Int} (h : hit M num = false) : minM M num = 0 := by
  unfold hit at h
  unfold minM
  by_cases hl : lb M num < M.length
  · rw [List.getElem?_eq_getElem hl] at h ⊢
    simp only [h]
    rfl
  · rw [List.getElem?_eq_none (by omega)]
set_option maxRecDepth 100000 in
theorem min_calls {M : List It} (hu : Up M) {A : Option Addr} {base b c : Nat} {w : World} (h : TAt w base b A c M) (hl : M.length ≤ 1000) (num : Int) :
    Calls Try.prog 17 #[.pointer (some ⟨b, 0, none⟩), .int .u64 num] w fun e w' => e = .returned (.tuple #[.int .i64 (minM M num), .bool (hit M num)]) ∧ Below w.heap.size w w' := by
  have FC := Lib.hid (find_calls hu h hl num)
  have HT := Lib.hid (fun (w2 : World) (hb : Below w.heap.size w w2) => And.intro (h.below hb).cell (h.below hb).row)
  clear h
  cases hh : hit M num with
  | true =>
    obtain ⟨hlt, hn, hm⟩ := hit_at hh
    rw [hh] at FC
    rw [hm]
    clear hm hn hh
    go_enter Try.func17, Try.ntmps17
    go_upto_region 4 with (go_at_call 40; refine FC.out.mono ?_; rintro e w3 ⟨rfl, hb3⟩; obtain ⟨hc, hr⟩ := HT.out w3 hb3; obtain ⟨q, rfl, hq, hcc⟩ := hr (by omega); obtain ⟨e0, e1, e2⟩ := hcc _ hlt; replace hb3 := Lib.hid hb3; clear hcc)
    go_wp2
    go_ret2
    exact ⟨rfl, hb3.out⟩
  | false =>
    rw [hit_no hh]
    rw [hh] at FC
    clear hh
    go_enter Try.func17, Try.ntmps17
    go_wp2_with (go_at_call 40; refine FC.out.mono ?_; rintro e w3 ⟨rfl, hb3⟩; replace hb3 := Lib.hid hb3)
    go_ret2
    exact ⟨rfl, hb3.out⟩
set_option maxRecDepth 100000 in
theorem min_nil (num : Int) (w : World) : Calls Try.prog 17 #[.pointer none, .int .u64 num] w fun e w' => e = .returned (.tuple #[.int .i64 0, .bool false]) ∧ w = w' := by
  have FC := Lib.hid (find_nil num w)
  go_enter Try.func17, Try.ntmps17
  go_wp2_with (go_at_call 40; refine FC.out.mono ?_; rintro e w' ⟨rfl, rfl⟩)
  go_ret2
  exact ⟨rfl, rfl⟩
end Go.Proofs.Ytonlbeonblpblaa.All
