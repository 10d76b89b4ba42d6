/-
  A table of moments in plain Lean: rising items, and where a number stands; its cells in Go's memory. No condition. Where a number stands in a table: the comparison, the search by halves, find; a moment's minute. No condition but that the table lies as its row says, its numbers rise, and it is short. What a table tells: its length, its last moment, the next one, whether a moment is the last of its window, whether it is quiet. No condition but that the table lies as its row says, its numbers rise and its minutes are minutes, and it is short. A moment more in a table. No condition but that the table lies as its row says, its numbers rise and its minutes are minutes, and it is short. Rules, as the rows read them and as they lie in any row; whether a rule is right. No condition.
-/
import Derived.Test.YtonlbeonblpblaaDoorMem
import Derived.Test.YtonlbeonblpblaaDoorProg
import Derived.WalkKit
import Derived.RowKit3
import Derived.Deep.QuietTactic
import Derived.BigQuiet
import Derived.Deep.RegionHeld3
import Derived.Shelf.SlSortCmp.Kit1
import Derived.Deep.LoopGhost
import Derived.Test.YtonlbeonblpblaaDoorOpen
namespace Go.Proofs.YtonlbeonblpblaaDoor.A36
open Go.RowKit Go.Proofs.YtonlbeonblpblaaDoorW.PrintWords Go.Proofs.YtonlbeonblpblaaDoorW.PrintLast Go.Proofs.YtonlbeonblpblaaDoorW.PrintMore Go.Proofs.YtonlbeonblpblaaDoor.Wd
set_option linter.unusedVariables false
set_option linter.unusedSimpArgs false
/-- A moment: number, minute, whether it is out. -/
structure It where
  n : Int
  m : Int
  o : Bool
def itc (x : It) : List Value := [.int .u64 x.n, .int .i64 x.m, .bool x.o]
def itcs (M : List It) : List Value := M.flatMap itc
theorem itcs_len : ∀ M : List It, (itcs M).length = M.length * 3
  | [] => rfl
  | x :: M => by
    show (itc x ++ itcs M).length = _
    rw [List.length_append, itcs_len M, List.length_cons, show (itc x).length = 3 from rfl]
    omega
theorem itcs_app (M L : List It) : itcs (M ++ L) = itcs M ++ itcs L := by simp [itcs, List.flatMap_append]
theorem itcs_get : ∀ (M : List It) (i j : Nat) (h : i < M.length), j < 3 → (itcs M)[i * 3 + j]? = (itc M[i])[j]?
  | x :: M, 0, j, _, hj => by
    show (itc x ++ itcs M)[0 * 3 + j]? = _
    rw [Nat.zero_mul, Nat.zero_add, List.getElem?_append_left (show j < (itc x).length from hj)]
    rfl
  | x :: M, i + 1, j, h, hj => by
    show (itc x ++ itcs M)[(i + 1) * 3 + j]? = _
    rw [List.getElem?_append_right (by rw [show (itc x).length = 3 from rfl]; omega), show (itc x).length = 3 from rfl, show (i + 1) * 3 + j - 3 = i * 3 + j by omega, itcs_get M i j (by simpa using h) hj]
    rfl
/-- Where a number stands, or would stand. -/
def lb (M : List It) (num : Int) : Nat := (M.takeWhile fun x => decide (x.n < num)).length
def hit (M : List It) (num : Int) : Bool := match M[lb M num]? with | some x => x.n == num | none => false
theorem lb_eq {M : List It} {num : Int} : ∀ {i : Nat}, i ≤ M.length → (∀ t (h : t < M.length), t < i → M[t].n < num) → (∀ h : i < M.length, ¬ M[i].n < num) → lb M num = i := by
  induction M with
  | nil =>
    intro i h _ _
    obtain rfl : i = 0 := by simpa using h
    rfl
  | cons x M ih =>
    intro i h h1 h2
    cases i with
    | zero =>
      have := h2 (by simp)
      unfold lb
      rw [List.takeWhile_cons, if_neg (by simpa using this)]
      rfl
    | succ i =>
      have h0 : x.n < num := h1 0 (by simp) (by omega)
      have := ih (i := i) (by simpa using h) (fun t h3 h4 => h1 (t + 1) (by simpa using h3) (by omega)) (fun h3 => h2 (by simpa using h3))
      unfold lb at this ⊢
      rw [List.takeWhile_cons, if_pos (by simpa using h0), List.length_cons, this]
theorem lb_le (M : List It) (num : Int) : lb M num ≤ M.length := by
  unfold lb
  exact (List.takeWhile_prefix _).length_le
/-- Rising numbers. -/
def Up (M : List It) : Prop := ∀ i j (hi : i < M.length) (hj : j < M.length), i < j → M[i].n < M[j].n
/-- A table at a block. -/
structure TAt (w : World) (base b : Nat) (A : Option Addr) (c : Nat) (M : List It) : Prop where
  head : w.heap[b]? = some (.cells #[.slice A M.length c] 91)
  own : w.ownsRow base 93 3 (.slice A M.length c) M.length (itcs M)
theorem TAt.chg {S : Nat → Prop} {w w2 : World} {base b : Nat} {A : Option Addr} {c : Nat} {M : List It} (h : TAt w base b A c M) (hc : Chg S w w2) (hb : ¬ S b) (hs : ∀ k cur, w.heap[k]? = some (.cells cur 93) → ¬ S k) : TAt w2 base b A c M := ⟨hc.old h.head hb, own_chg h.own hc hs⟩
theorem TAt.below {w w2 : World} {base b : Nat} {A : Option Addr} {c : Nat} {M : List It} (h : TAt w base b A c M) (hb : Below w.heap.size w w2) : TAt w2 base b A c M := h.chg (S := fun _ => False) (.of_below hb) (fun e => e) (fun _ _ _ e => e)
theorem TAt.lt {w : World} {base b : Nat} {A : Option Addr} {c : Nat} {M : List It} (h : TAt w base b A c M) : b < w.heap.size := lt_heap h.head
theorem TAt.cell {w : World} {base b : Nat} {A : Option Addr} {c : Nat} {M : List It} (h : TAt w base b A c M) : w.cell? { block := b, off := 0 } = some (.slice A M.length c) := cell_of_row w b 0 _ _ (0, 0) h.head
theorem TAt.frozen {w : World} {base b : Nat} {A : Option Addr} {c : Nat} {M : List It} (h : TAt w base b A c M) : w.frozen? { block := b, off := 0 } = false := frozen_of_row w b 0 _ _ h.head
/-- Items in a row, to be read. -/
def ItRow (w : World) (A : Option Addr) (M : List It) : Prop := 0 < M.length → ∃ q, A = some ⟨q, 0, none⟩ ∧ q < w.heap.size ∧ ∀ i (h : i < M.length), w.cell? { block := q, off := i * 3 } = some (.int .u64 M[i].n) ∧ w.cell? { block := q, off := i * 3 + 1 } = some (.int .i64 M[i].m) ∧ w.cell? { block := q, off := i * 3 + 2 } = some (.bool M[i].o)
theorem TAt.row {w : World} {base b : Nat} {A : Option Addr} {c : Nat} {M : List It} (h : TAt w base b A c M) : ItRow w A M := fun h0 => by
  obtain ⟨q, cur, e, _, hh, _, _, hc⟩ := own_row h.own h0
  refine ⟨q, e, lt_heap hh, fun i hi => ⟨hc _ _ ?_, hc _ _ ?_, hc _ _ ?_⟩⟩
  · exact (itcs_get M i 0 hi (by omega)).trans rfl
  · exact (itcs_get M i 1 hi (by omega)).trans rfl
  · exact (itcs_get M i 2 hi (by omega)).trans rfl
theorem ItRow.below {w w2 : World} {A : Option Addr} {M : List It} (h : ItRow w A M) (hb : Below w.heap.size w w2) : ItRow w2 A M := fun h0 => by
  obtain ⟨q, e, hq, hc⟩ := h h0
  have k : ∀ j, w2.cell? { block := q, off := j } = w.cell? { block := q, off := j } := fun j => hb.cell (p := { block := q, off := j }) hq
  exact ⟨q, e, Nat.lt_of_lt_of_le hq hb.size, fun i hi => by rw [k, k, k]; exact hc i hi⟩
theorem TAt.cap {w : World} {base b : Nat} {A : Option Addr} {c : Nat} {M : List It} (h : TAt w base b A c M) : M.length ≤ c := by
  obtain ⟨A', c', e, hc⟩ := own_slice_cap h.own
  injection e with _ _ e
  omega
end Go.Proofs.YtonlbeonblpblaaDoor.A36
namespace Go.Proofs.YtonlbeonblpblaaDoor.A36
open Go.RowKit Go.Proofs.YtonlbeonblpblaaDoorW.PrintWords Go.Proofs.YtonlbeonblpblaaDoorW.PrintLast Go.Proofs.YtonlbeonblpblaaDoorW.PrintMore Go.Proofs.YtonlbeonblpblaaDoor.Wd
set_option linter.unusedVariables false
set_option linter.unusedSimpArgs false
def cmpI (x num : Int) : Int := if x < num then -1 else if num < x then 1 else 0
set_option maxRecDepth 100000 in
theorem cmp_calls (x : It) (num : Int) (w : World) : Calls Tryd.prog 55 #[.agg #[.int .u64 x.n, .int .i64 x.m, .bool x.o], .int .u64 num] w fun e w' => e = .returned (.int .i64 (cmpI x.n num)) ∧ Below w.heap.size w w' := by
  by_cases h1 : x.n < num
  · have H1 := Lib.hid h1
    go_enter Tryd.func55, Tryd.ntmps55
    go_wp2
    go_ret
    exact ⟨ret_i (by have := H1.out; unfold cmpI; rw [if_pos (by omega)]), below_alloc (Below.refl _ _) _⟩
  · by_cases h2 : num < x.n
    · have H1 := Lib.hid h1
      have H2 := Lib.hid h2
      go_enter Tryd.func55, Tryd.ntmps55
      go_wp2
      go_ret
      exact ⟨ret_i (by have := H1.out; have := H2.out; unfold cmpI; rw [if_neg (by omega), if_pos (by omega)]), below_alloc (Below.refl _ _) _⟩
    · have H1 := Lib.hid h1
      have H2 := Lib.hid h2
      go_enter Tryd.func55, Tryd.ntmps55
      go_wp2
      go_ret
      exact ⟨ret_i (by have := H1.out; have := H2.out; unfold cmpI; rw [if_neg (by omega), if_neg (by omega)]), below_alloc (Below.refl _ _) _⟩
set_option maxRecDepth 100000 in
set_option maxHeartbeats 2000000 in
theorem search_calls {M : List It} (hu : Up M) {A : Option Addr} {c : Nat} {w : World} (hR : ItRow w A M) (hl : M.length ≤ 1000) (num : Int) :
    Calls Tryd.prog 54 #[.slice A M.length c, .int .u64 num, .func (.func 55) #[] #[]] w fun e w' => e = .returned (.tuple #[.int .i64 (lb M num : Nat), .bool (hit M num)]) ∧ Below w.heap.size w w' := by
  replace hR := Lib.hid hR
  replace hu := Lib.hid hu
  have CC := Lib.hid (fun (x : It) (w : World) => cmp_calls x num w)
  go_enter Tryd.func54, Tryd.ntmps54
  go_wp2
  go_loopw [9, 10] (fun v9 v10 wr => ∃ lo hi : Nat, v9 = .int .i64 lo ∧ v10 = .int .i64 hi ∧ lo ≤ hi ∧ hi ≤ M.length ∧ Hid (Below w.heap.size w wr) ∧ Hid ((∀ t (h : t < M.length), t < lo → M[t].n < num) ∧ (∀ t (h : t < M.length), hi ≤ t → num ≤ M[t].n))) (fun v9 v10 _ => (intOf v10).toNat - (intOf v9).toNat)
  case atStart => exact ⟨0, M.length, rfl, rfl, Nat.zero_le _, Nat.le_refl _, Lib.hid (Below.refl _ _), Lib.hid ⟨fun t _ h => absurd h (Nat.not_lt_zero _), fun t h1 h2 => by omega⟩⟩
  case round =>
    obtain ⟨lo, hi, rfl, rfl, hlh, hin, HB, I⟩ := hrel
    by_cases hlt : lo < hi
    · have hm : (lo + hi) / 2 < M.length := by omega
      obtain ⟨q, rfl, hq, hc⟩ := (hR.out.below HB.out) (by omega)
      obtain ⟨e0, e1, e2⟩ := hc ((lo + hi) / 2) hm
      clear hc
      generalize hx : M[(lo + hi) / 2] = x at *
      have HX := Lib.hid hx
      clear hx
      by_cases hy : x.n < num
      · have hk : decide (cmpI x.n num < 0) = true := by unfold cmpI; rw [if_pos hy]; rfl
        have I2 := Lib.hid (show (∀ t (h : t < M.length), t < (lo + hi) / 2 + 1 → M[t].n < num) ∧ (∀ t (h : t < M.length), hi ≤ t → num ≤ M[t].n) from ⟨fun t h ht => by
          by_cases e : t = (lo + hi) / 2
          · subst e; rw [HX.out]; exact hy
          · have := hu.out t ((lo + hi) / 2) h hm (by omega)
            rw [HX.out] at this
            omega, I.out.2⟩)
        clear hy
        go_wp2_with (go_at_call 55; refine (CC.out x _).mono ?_; rintro e w3 ⟨rfl, hb3⟩; replace HB := Lib.hid (HB.out.trans (hb3.mono HB.out.size)); clear hb3)
        go_roundw
        case rel => exact ⟨(lo + hi) / 2 + 1, hi, by rw [show ((lo : Int) + (hi : Int)) / 2 + 1 = (((lo + hi) / 2 + 1 : Nat) : Int) by omega], rfl, by omega, hin, HB, I2⟩
        case measure => simp [intOf]; omega
      · have hk : decide (cmpI x.n num < 0) = false := by
          unfold cmpI
          rw [if_neg hy]
          split <;> rfl
        have I2 := Lib.hid (show (∀ t (h : t < M.length), t < lo → M[t].n < num) ∧ (∀ t (h : t < M.length), (lo + hi) / 2 ≤ t → num ≤ M[t].n) from ⟨I.out.1, fun t h ht => by
          by_cases e : t = (lo + hi) / 2
          · subst e; rw [HX.out]; omega
          · have := hu.out ((lo + hi) / 2) t hm h (by omega)
            rw [HX.out] at this
            omega⟩)
        clear hy
        go_wp2_with (go_at_call 55; refine (CC.out x _).mono ?_; rintro e w3 ⟨rfl, hb3⟩; replace HB := Lib.hid (HB.out.trans (hb3.mono HB.out.size)); clear hb3)
        go_roundw
        case rel => exact ⟨lo, (lo + hi) / 2, rfl, by rw [show ((lo : Int) + (hi : Int)) / 2 = (((lo + hi) / 2 : Nat) : Int) by omega], by omega, by omega, HB, I2⟩
        case measure => simp [intOf]; omega
    · obtain rfl : lo = hi := by omega
      have HL := Lib.hid (lb_eq hin (fun t h ht => I.out.1 t h ht) (fun h => by have := I.out.2 lo h (Nat.le_refl _); omega))
      by_cases hn : lo < M.length
      · obtain ⟨q, rfl, hq, hc⟩ := (hR.out.below HB.out) (by omega)
        obtain ⟨e0, e1, e2⟩ := hc lo hn
        clear hc
        have HH := Lib.hid (show hit M num = (M[lo].n == num) by unfold hit; rw [HL.out, List.getElem?_eq_getElem hn])
        have hge := I.out.2 lo hn (Nat.le_refl _)
        generalize M[lo] = x at *
        have HK := Lib.hid (show (cmpI x.n num == 0) = (x.n == num) by
          unfold cmpI
          rw [if_neg (by omega)]
          by_cases e : num < x.n
          · rw [if_pos e]
            have : (x.n == num) = false := by simp; omega
            rw [this]; rfl
          · rw [if_neg e]
            have : (x.n == num) = true := by simp; omega
            rw [this]; rfl)
        clear hge
        go_wp2_with (go_at_call 55; refine (CC.out x _).mono ?_; rintro e w3 ⟨rfl, hb3⟩; replace HB := Lib.hid (HB.out.trans (hb3.mono HB.out.size)); clear hb3)
        go_ret2
        exact ⟨by rw [HL.out, HH.out, ← HK.out]; rfl, HB.out⟩
      · obtain rfl : lo = M.length := by omega
        have HH := Lib.hid (show hit M num = false by unfold hit; rw [HL.out, List.getElem?_eq_none (Nat.le_refl _)])
        go_wp2
        go_ret2
        exact ⟨by rw [HL.out, HH.out]; rfl, HB.out⟩
theorem tab_keep {w w2 : World} {base b : Nat} {A : Option Addr} {c : Nat} {M : List It} (h : TAt w base b A c M) (hb : Below w.heap.size w w2) : TAt w2 base b A c M := h.below hb
set_option maxRecDepth 100000 in
theorem find_calls {M : List It} (hu : Up M) {A : Option Addr} {base b c : Nat} {w : World} (h : TAt w base b A c M) (hl : M.length ≤ 1000) (num : Int) :
    Calls Tryd.prog 45 #[.pointer (some ⟨b, 0, none⟩), .int .u64 num] w fun e w' => e = .returned (.tuple #[.int .i64 (lb M num : Nat), .bool (hit M num)]) ∧ Below w.heap.size w w' := by
  have SC := Lib.hid (search_calls hu (c := c) h.row hl num)
  have hc := h.cell
  clear h
  go_enter Tryd.func45, Tryd.ntmps45
  go_wp2_with (go_at_call 54; refine SC.out.mono ?_; rintro e w3 ⟨rfl, hb3⟩; replace hb3 := Lib.hid hb3)
  go_ret2
  exact ⟨rfl, hb3.out⟩
set_option maxRecDepth 100000 in
theorem find_nil (num : Int) (w : World) : Calls Tryd.prog 45 #[.pointer none, .int .u64 num] w fun e w' => e = .returned (.tuple #[.int .i64 0, .bool false]) ∧ w = w' := by
  go_enter Tryd.func45, Tryd.ntmps45
  go_wp2
  go_ret2
  exact ⟨rfl, rfl⟩
/-- A moment's minute, 0: it is not there. -/
def minM (M : List It) (num : Int) : Int := match M[lb M num]? with | some x => if x.n == num then x.m else 0 | none => 0
theorem hit_at {M : List It} {num : Int} (h : hit M num = true) : ∃ hl : lb M num < M.length, M[lb M num].n = num ∧ minM M num = M[lb M num].m := by
  unfold hit at h
  by_cases hl : lb M num < M.length
  · rw [List.getElem?_eq_getElem hl] at h
    refine ⟨hl, by simpa using h, ?_⟩
    unfold minM
    rw [List.getElem?_eq_getElem hl]
    simp only [h, if_true]
  · rw [List.getElem?_eq_none (by omega)] at h
    cases h
theorem hit_no {M : List It} {num : Int} (h : hit M num = false) : minM M num = 0 := by
  unfold hit at h
  unfold minM
  by_cases hl : lb M num < M.length
  · rw [List.getElem?_eq_getElem hl] at h ⊢
    simp only [h]
    rfl
  · rw [List.getElem?_eq_none (by omega)]
set_option maxRecDepth 100000 in
theorem min_calls {M : List It} (hu : Up M) {A : Option Addr} {base b c : Nat} {w : World} (h : TAt w base b A c M) (hl : M.length ≤ 1000) (num : Int) :
    Calls Tryd.prog 48 #[.pointer (some ⟨b, 0, none⟩), .int .u64 num] w fun e w' => e = .returned (.tuple #[.int .i64 (minM M num), .bool (hit M num)]) ∧ Below w.heap.size w w' := by
  have FC := Lib.hid (find_calls hu h hl num)
  have HT := Lib.hid (fun (w2 : World) (hb : Below w.heap.size w w2) => And.intro (h.below hb).cell (h.below hb).row)
  clear h
  cases hh : hit M num with
  | true =>
    obtain ⟨hlt, hn, hm⟩ := hit_at hh
    rw [hh] at FC
    rw [hm]
    clear hm hn hh
    go_enter Tryd.func48, Tryd.ntmps48
    go_upto_region 4 with (go_at_call 45; refine FC.out.mono ?_; rintro e w3 ⟨rfl, hb3⟩; obtain ⟨hc, hr⟩ := HT.out w3 hb3; obtain ⟨q, rfl, hq, hcc⟩ := hr (by omega); obtain ⟨e0, e1, e2⟩ := hcc _ hlt; replace hb3 := Lib.hid hb3; clear hcc)
    go_wp2
    go_ret2
    exact ⟨rfl, hb3.out⟩
  | false =>
    rw [hit_no hh]
    rw [hh] at FC
    clear hh
    go_enter Tryd.func48, Tryd.ntmps48
    go_wp2_with (go_at_call 45; refine FC.out.mono ?_; rintro e w3 ⟨rfl, hb3⟩; replace hb3 := Lib.hid hb3)
    go_ret2
    exact ⟨rfl, hb3.out⟩
set_option maxRecDepth 100000 in
theorem min_nil (num : Int) (w : World) : Calls Tryd.prog 48 #[.pointer none, .int .u64 num] w fun e w' => e = .returned (.tuple #[.int .i64 0, .bool false]) ∧ w = w' := by
  have FC := Lib.hid (find_nil num w)
  go_enter Tryd.func48, Tryd.ntmps48
  go_wp2_with (go_at_call 45; refine FC.out.mono ?_; rintro e w' ⟨rfl, rfl⟩)
  go_ret2
  exact ⟨rfl, rfl⟩
end Go.Proofs.YtonlbeonblpblaaDoor.A36
namespace Go.Proofs.YtonlbeonblpblaaDoor.A36
open Go.RowKit Go.Proofs.YtonlbeonblpblaaDoorW.PrintWords Go.Proofs.YtonlbeonblpblaaDoorW.PrintLast Go.Proofs.YtonlbeonblpblaaDoorW.PrintMore Go.Proofs.YtonlbeonblpblaaDoor.Wd
set_option linter.unusedVariables false
set_option linter.unusedSimpArgs false
private theorem ymLook (motive : Option Value → Sort _) (h1 : (b : Bool) → motive (some (.bool b))) (h2 : (x : Option Value) → motive x) : Go.yielded.match_1 motive (some undef) h1 h2 = h2 (some undef) := rfl
attribute [local go_sem, local simp] ymLook
/-- Rising numbers, and minutes that are. -/
structure Good (M : List It) : Prop where
  up : Up M
  min : ∀ x ∈ M, 0 ≤ x.m ∧ x.m ≤ 1073741824
  len : M.length ≤ 1000
def nextI (M : List It) (num : Int) : Nat := lb M num + if hit M num = true then 1 else 0
def nextN (M : List It) (num : Int) : Int := match M[nextI M num]? with | some x => x.n | none => 0
def nextM (M : List It) (num : Int) : Int := match M[nextI M num]? with | some x => x.m | none => 0
def isLast (M : List It) (num : Int) : Bool := decide (M.length ≤ nextI M num)
theorem lb_at {M : List It} (hu : Up M) {i : Nat} (hi : i < M.length) : lb M M[i].n = i :=
  lb_eq (Nat.le_of_lt hi) (fun t h ht => hu t i h hi ht) (fun h => by omega)
theorem hit_in {M : List It} (hu : Up M) {i : Nat} (hi : i < M.length) : hit M M[i].n = true := by
  unfold hit
  rw [lb_at hu hi, List.getElem?_eq_getElem hi]
  simp
theorem min_at {M : List It} (hu : Up M) {i : Nat} (hi : i < M.length) : minM M M[i].n = M[i].m := by
  unfold minM
  rw [lb_at hu hi, List.getElem?_eq_getElem hi]
  simp
theorem minM_rng {M : List It} (g : Good M) (num : Int) : 0 ≤ minM M num ∧ minM M num ≤ 1073741824 := by
  cases h : hit M num with
  | true =>
    obtain ⟨hl, _, e⟩ := hit_at h
    rw [e]
    exact g.min _ (List.getElem_mem hl)
  | false => rw [hit_no h]; omega
theorem nextM_rng {M : List It} (g : Good M) (num : Int) : 0 ≤ nextM M num ∧ nextM M num ≤ 1073741824 := by
  unfold nextM
  by_cases h : nextI M num < M.length
  · rw [List.getElem?_eq_getElem h]; exact g.min _ (List.getElem_mem h)
  · rw [List.getElem?_eq_none (by omega)]; exact ⟨Int.le_refl _, by show (0 : Int) ≤ _; omega⟩
set_option maxRecDepth 100000 in
theorem len_calls {M : List It} {A : Option Addr} {base b c : Nat} {w : World} (h : TAt w base b A c M) :
    Calls Tryd.prog 59 #[.pointer (some ⟨b, 0, none⟩)] w fun e w' => e = .returned (.int .i64 (M.length : Nat)) ∧ w = w' := by
  have hc := h.cell
  clear h
  go_enter Tryd.func59, Tryd.ntmps59
  go_wp2
  go_ret
  exact ⟨rfl, rfl⟩
set_option maxRecDepth 100000 in
theorem len_nil (w : World) : Calls Tryd.prog 59 #[.pointer none] w fun e w' => e = .returned (.int .i64 0) ∧ w = w' := by
  go_enter Tryd.func59, Tryd.ntmps59
  go_wp2
  go_ret
  exact ⟨rfl, rfl⟩
set_option maxRecDepth 100000 in
theorem new_calls (w : World) : Calls Tryd.prog 12 #[] w fun e w' => e = .returned (.pointer (some ⟨w.heap.size, 0, none⟩)) ∧ TAt w' w.heap.size w.heap.size none 0 [] ∧ Below w.heap.size w w' := by
  go_enter Tryd.func12, Tryd.ntmps12
  go_wp2
  go_ret
  exact ⟨rfl, ⟨heap_alloc_new w _, rfl, .inl ⟨rfl, rfl⟩⟩, below_alloc (Below.refl _ _) _⟩
set_option maxRecDepth 100000 in
set_option maxHeartbeats 1000000 in
theorem next_calls {M : List It} (g : Good M) {A : Option Addr} {base b c : Nat} {w : World} (h : TAt w base b A c M) (num : Int) :
    Calls Tryd.prog 53 #[.pointer (some ⟨b, 0, none⟩), .int .u64 num] w fun e w' => e = .returned (.tuple #[.int .u64 (nextN M num), .bool (!isLast M num)]) ∧ Below w.heap.size w w' := by
  have FC := Lib.hid (find_calls g.up h g.len num)
  have LC := Lib.hid (fun (w2 : World) (hb : Below w.heap.size w w2) => len_calls (h.below hb))
  have HT := Lib.hid (fun (w2 : World) (hb : Below w.heap.size w w2) => And.intro (h.below hb).cell (h.below hb).row)
  have hll := g.len
  have hlb := lb_le M num
  clear h
  have HI := Lib.hid (show nextI M num = lb M num + if hit M num = true then 1 else 0 from rfl)
  cases hh : hit M num with
  | true =>
    rw [hh] at FC HI
    rw [if_pos rfl] at HI
    clear hh
    by_cases hlt : lb M num + 1 < M.length
    · have e1 := Lib.hid (show isLast M num = false by unfold isLast; rw [HI.out]; exact decide_eq_false (by omega))
      have e2 := Lib.hid (show nextN M num = M[lb M num + 1].n by unfold nextN; rw [HI.out, List.getElem?_eq_getElem hlt])
      generalize lb M num = k at *
      have hd : decide ((M.length : Int) ≤ (k : Int) + 1) = false := decide_eq_false (by omega)
      have hdn : decide (M.length ≤ k + 1) = false := decide_eq_false (by omega)
      go_enter Tryd.func53, Tryd.ntmps53
      go_wp2_with (first
        | (go_at_call 45; refine FC.out.mono ?_; rintro e w3 ⟨rfl, hb3⟩; obtain ⟨hc, hr⟩ := HT.out w3 hb3; obtain ⟨q, rfl, hq, hcc⟩ := hr (by omega); obtain ⟨f0, f1, f2⟩ := hcc _ hlt; clear hcc; replace hb3 := Lib.hid hb3)
        | (go_at_call 59; refine (LC.out _ hb3.out).mono ?_; rintro e w' ⟨rfl, rfl⟩))
      go_ret2
      exact ⟨by rw [e1.out, e2.out]; rfl, hb3.out⟩
    · have e1 := Lib.hid (show isLast M num = true by unfold isLast; rw [HI.out]; exact decide_eq_true (by omega))
      have e2 := Lib.hid (show nextN M num = 0 by unfold nextN; rw [HI.out, List.getElem?_eq_none (by omega)])
      generalize lb M num = k at *
      have hd : decide ((M.length : Int) ≤ (k : Int) + 1) = true := decide_eq_true (by omega)
      have hdn : decide (M.length ≤ k + 1) = true := decide_eq_true (by omega)
      go_enter Tryd.func53, Tryd.ntmps53
      go_wp2_with (first
        | (go_at_call 45; refine FC.out.mono ?_; rintro e w3 ⟨rfl, hb3⟩; replace hb3 := Lib.hid hb3)
        | (go_at_call 59; refine (LC.out _ hb3.out).mono ?_; rintro e w' ⟨rfl, rfl⟩))
      go_ret2
      exact ⟨by rw [e1.out, e2.out]; rfl, hb3.out⟩
  | false =>
    rw [hh] at FC HI
    rw [if_neg (by decide), Nat.add_zero] at HI
    clear hh
    by_cases hlt : lb M num < M.length
    · have e1 := Lib.hid (show isLast M num = false by unfold isLast; rw [HI.out]; exact decide_eq_false (by omega))
      have e2 := Lib.hid (show nextN M num = M[lb M num].n by unfold nextN; rw [HI.out, List.getElem?_eq_getElem hlt])
      generalize lb M num = k at *
      have hd : decide ((M.length : Int) ≤ (k : Int)) = false := decide_eq_false (by omega)
      have hdn : decide (M.length ≤ k) = false := decide_eq_false (by omega)
      go_enter Tryd.func53, Tryd.ntmps53
      go_wp2_with (first
        | (go_at_call 45; refine FC.out.mono ?_; rintro e w3 ⟨rfl, hb3⟩; obtain ⟨hc, hr⟩ := HT.out w3 hb3; obtain ⟨q, rfl, hq, hcc⟩ := hr (by omega); obtain ⟨f0, f1, f2⟩ := hcc _ hlt; clear hcc; replace hb3 := Lib.hid hb3)
        | (go_at_call 59; refine (LC.out _ hb3.out).mono ?_; rintro e w' ⟨rfl, rfl⟩))
      go_ret2
      exact ⟨by rw [e1.out, e2.out]; rfl, hb3.out⟩
    · have e1 := Lib.hid (show isLast M num = true by unfold isLast; rw [HI.out]; exact decide_eq_true (by omega))
      have e2 := Lib.hid (show nextN M num = 0 by unfold nextN; rw [HI.out, List.getElem?_eq_none (by omega)])
      generalize lb M num = k at *
      have hd : decide ((M.length : Int) ≤ (k : Int)) = true := decide_eq_true (by omega)
      have hdn : decide (M.length ≤ k) = true := decide_eq_true (by omega)
      go_enter Tryd.func53, Tryd.ntmps53
      go_wp2_with (first
        | (go_at_call 45; refine FC.out.mono ?_; rintro e w3 ⟨rfl, hb3⟩; replace hb3 := Lib.hid hb3)
        | (go_at_call 59; refine (LC.out _ hb3.out).mono ?_; rintro e w' ⟨rfl, rfl⟩))
      go_ret2
      exact ⟨by rw [e1.out, e2.out]; rfl, hb3.out⟩
theorem next_min {M : List It} (g : Good M) (num : Int) (h : isLast M num = false) : minM M (nextN M num) = nextM M num ∧ hit M (nextN M num) = true := by
  have hl : nextI M num < M.length := by
    unfold isLast at h
    have := of_decide_eq_false h
    omega
  have e1 : nextN M num = M[nextI M num].n := by unfold nextN; rw [List.getElem?_eq_getElem hl]
  have e2 : nextM M num = M[nextI M num].m := by unfold nextM; rw [List.getElem?_eq_getElem hl]
  rw [e1, e2]
  exact ⟨min_at g.up hl, hit_in g.up hl⟩
/-- What ahead tells of the next one. -/
def aheadM (M : List It) (num : Int) : Int := if isLast M num = true then 0 else nextM M num
set_option maxRecDepth 100000 in
set_option maxHeartbeats 1000000 in
theorem ahead_calls {M : List It} (g : Good M) {A : Option Addr} {base b c : Nat} {w : World} (h : TAt w base b A c M) (num : Int) :
    Calls Tryd.prog 44 #[.pointer (some ⟨b, 0, none⟩), .int .u64 num] w fun e w' => e = .returned (.tuple #[.int .i64 (minM M num), .int .i64 (aheadM M num), .bool (hit M num), .bool (isLast M num)]) ∧ Below w.heap.size w w' := by
  have MC := Lib.hid (fun (w2 : World) (k : Int) (hb : Below w.heap.size w w2) => min_calls g.up (h.below hb) g.len k)
  have NC := Lib.hid (fun (w2 : World) (hb : Below w.heap.size w w2) => next_calls g (h.below hb) num)
  have hb0 := Lib.hid (Below.refl w.heap.size w)
  clear h
  cases hl : isLast M num with
  | true =>
    have e1 := Lib.hid (show aheadM M num = 0 by unfold aheadM; rw [if_pos hl])
    rw [hl] at NC
    clear hl
    go_enter Tryd.func44, Tryd.ntmps44
    go_wp2_with (first
      | (go_at_call 48; refine (MC.out _ _ hb0.out).mono ?_; rintro e w3 ⟨rfl, hb3⟩; replace hb0 := Lib.hid (hb0.out.trans (hb3.mono hb0.out.size)); clear hb3)
      | (go_at_call 53; refine (NC.out _ hb0.out).mono ?_; rintro e w3 ⟨rfl, hb3⟩; replace hb0 := Lib.hid (hb0.out.trans (hb3.mono hb0.out.size)); clear hb3))
    exact bodyPost_ret (v := .tuple #[.int .i64 (minM M num), .int .i64 0, .bool (hit M num), .bool true]) (by simp [results, Tryd.results44, go_sem]) rfl ⟨by rw [e1.out], hb0.out⟩
  | false =>
    have e1 := Lib.hid (show aheadM M num = nextM M num by unfold aheadM; rw [hl]; rfl)
    have e2 := Lib.hid (next_min g num hl).1
    rw [hl] at NC
    clear hl
    go_enter Tryd.func44, Tryd.ntmps44
    go_wp2_with (first
      | (go_at_call 48; refine (MC.out _ _ hb0.out).mono ?_; rintro e w3 ⟨rfl, hb3⟩; replace hb0 := Lib.hid (hb0.out.trans (hb3.mono hb0.out.size)); clear hb3)
      | (go_at_call 53; refine (NC.out _ hb0.out).mono ?_; rintro e w3 ⟨rfl, hb3⟩; replace hb0 := Lib.hid (hb0.out.trans (hb3.mono hb0.out.size)); clear hb3))
    exact bodyPost_ret (v := .tuple #[.int .i64 (minM M num), .int .i64 (minM M (nextN M num)), .bool (hit M num), .bool false]) (by simp [results, Tryd.results44, go_sem]) rfl ⟨by rw [e1.out, e2.out], hb0.out⟩
/-- The last one of its window? -/
def closesM (M : List It) (num win : Int) : Bool := hit M num && decide (1 ≤ win) && (isLast M num || decide (minM M num / win ≠ nextM M num / win))
/-- No other one soon? -/
def quietM (M : List It) (num gap : Int) : Bool := hit M num && decide (0 ≤ gap) && (isLast M num || decide (gap < nextM M num - minM M num))
theorem ahead_is {M : List It} {num : Int} (h : isLast M num = false) : aheadM M num = nextM M num := by unfold aheadM; rw [h]; rfl
set_option maxRecDepth 100000 in
set_option maxHeartbeats 1000000 in
theorem closes_calls {M : List It} (g : Good M) {A : Option Addr} {base b c : Nat} {w : World} (h : TAt w base b A c M) (num win : Int) :
    Calls Tryd.prog 26 #[.pointer (some ⟨b, 0, none⟩), .int .u64 num, .int .i64 win] w fun e w' => e = .returned (.bool (closesM M num win)) ∧ Below w.heap.size w w' := by
  have AC := ahead_calls g h num
  obtain ⟨m0, m1⟩ := minM_rng g num
  obtain ⟨n0, n1⟩ := nextM_rng g num
  clear h
  cases hh : hit M num with
  | false =>
    have e1 := Lib.hid (show closesM M num win = false by unfold closesM; rw [hh]; rfl)
    rw [hh] at AC
    replace AC := Lib.hid AC
    clear hh
    go_enter Tryd.func26, Tryd.ntmps26
    go_upto_region 2 with (go_at_call 44; refine AC.out.mono ?_; rintro e w3 ⟨rfl, hb3⟩; replace hb3 := Lib.hid hb3)
    go_quiet (fail)
    go_wp2
    go_ret
    exact ⟨by rw [e1.out]; rfl, Lib.hid (pw_below_drewN hb3.out _) |>.out⟩
  | true =>
    rw [hh] at AC
    by_cases hw : 1 ≤ win
    · have hwd : decide (1 ≤ win) = true := decide_eq_true hw
      cases hl : isLast M num with
      | true =>
        have e1 := Lib.hid (show closesM M num win = true by unfold closesM; rw [hh, hwd, hl]; rfl)
        rw [hl] at AC
        replace AC := Lib.hid AC
        clear hh hl
        go_enter Tryd.func26, Tryd.ntmps26
        go_upto_region 2 with (go_at_call 44; refine AC.out.mono ?_; rintro e w3 ⟨rfl, hb3⟩; replace hb3 := Lib.hid hb3)
        go_quiet (fail)
        go_wp2
        go_ret
        exact ⟨by rw [e1.out]; rfl, Lib.hid (pw_below_drewN hb3.out _) |>.out⟩
      | false =>
        have e1 := Lib.hid (show closesM M num win = decide (minM M num / win ≠ nextM M num / win) by unfold closesM; rw [hh, hwd, hl]; rfl)
        rw [hl, ahead_is hl] at AC
        replace AC := Lib.hid AC
        clear hh hl
        by_cases hq : minM M num / win = nextM M num / win
        · have hq1 : (minM M num / win != nextM M num / win) = false := by simp [bne, hq]
          have e2 := Lib.hid (show decide (minM M num / win ≠ nextM M num / win) = false from decide_eq_false (fun h => h hq))
          replace hq := Lib.hid hq
          go_enter Tryd.func26, Tryd.ntmps26
          go_upto_region 2 with (go_at_call 44; refine AC.out.mono ?_; rintro e w3 ⟨rfl, hb3⟩; replace hb3 := Lib.hid hb3)
          go_quiet (fail)
          go_wp2
          go_ret
          exact ⟨by rw [e1.out, e2.out]; rfl, Lib.hid (pw_below_drewN hb3.out _) |>.out⟩
        · have hq1 : (minM M num / win != nextM M num / win) = true := by simpa [bne] using hq
          have e2 := Lib.hid (show decide (minM M num / win ≠ nextM M num / win) = true from decide_eq_true hq)
          replace hq := Lib.hid hq
          go_enter Tryd.func26, Tryd.ntmps26
          go_upto_region 2 with (go_at_call 44; refine AC.out.mono ?_; rintro e w3 ⟨rfl, hb3⟩; replace hb3 := Lib.hid hb3)
          go_quiet (fail)
          go_wp2
          go_ret
          exact ⟨by rw [e1.out, e2.out]; rfl, Lib.hid (pw_below_drewN hb3.out _) |>.out⟩
    · have hwd : decide (1 ≤ win) = false := decide_eq_false hw
      have e1 := Lib.hid (show closesM M num win = false by unfold closesM; rw [hwd]; simp)
      replace AC := Lib.hid AC
      clear hh
      go_enter Tryd.func26, Tryd.ntmps26
      go_upto_region 2 with (go_at_call 44; refine AC.out.mono ?_; rintro e w3 ⟨rfl, hb3⟩; replace hb3 := Lib.hid hb3)
      go_quiet (fail)
      go_wp2
      go_ret
      exact ⟨by rw [e1.out]; rfl, Lib.hid (pw_below_drewN hb3.out _) |>.out⟩
set_option maxRecDepth 100000 in
set_option maxHeartbeats 1000000 in
theorem quiet_calls {M : List It} (g : Good M) {A : Option Addr} {base b c : Nat} {w : World} (h : TAt w base b A c M) (num gap : Int) :
    Calls Tryd.prog 28 #[.pointer (some ⟨b, 0, none⟩), .int .u64 num, .int .i64 gap] w fun e w' => e = .returned (.bool (quietM M num gap)) ∧ Below w.heap.size w w' := by
  have AC := ahead_calls g h num
  obtain ⟨m0, m1⟩ := minM_rng g num
  obtain ⟨n0, n1⟩ := nextM_rng g num
  clear h
  cases hh : hit M num with
  | false =>
    have e1 := Lib.hid (show quietM M num gap = false by unfold quietM; rw [hh]; rfl)
    rw [hh] at AC
    replace AC := Lib.hid AC
    clear hh
    go_enter Tryd.func28, Tryd.ntmps28
    go_upto_region 2 with (go_at_call 44; refine AC.out.mono ?_; rintro e w3 ⟨rfl, hb3⟩; replace hb3 := Lib.hid hb3)
    go_wp2
    go_ret
    exact ⟨by rw [e1.out]; rfl, hb3.out⟩
  | true =>
    rw [hh] at AC
    by_cases hw : 0 ≤ gap
    · have hwd : decide (0 ≤ gap) = true := decide_eq_true hw
      cases hl : isLast M num with
      | true =>
        have e1 := Lib.hid (show quietM M num gap = true by unfold quietM; rw [hh, hwd, hl]; rfl)
        rw [hl] at AC
        replace AC := Lib.hid AC
        clear hh hl
        go_enter Tryd.func28, Tryd.ntmps28
        go_upto_region 2 with (go_at_call 44; refine AC.out.mono ?_; rintro e w3 ⟨rfl, hb3⟩; replace hb3 := Lib.hid hb3)
        go_wp2
        go_ret
        exact ⟨by rw [e1.out]; rfl, hb3.out⟩
      | false =>
        have e1 := Lib.hid (show quietM M num gap = decide (gap < nextM M num - minM M num) by unfold quietM; rw [hh, hwd, hl]; rfl)
        rw [hl, ahead_is hl] at AC
        replace AC := Lib.hid AC
        clear hh hl
        by_cases hq : gap < nextM M num - minM M num
        · have hq1 : decide (gap < nextM M num - minM M num) = true := decide_eq_true hq
          have e2 := Lib.hid (show decide (gap < nextM M num - minM M num) = true from decide_eq_true hq)
          replace hq := Lib.hid hq
          go_enter Tryd.func28, Tryd.ntmps28
          go_upto_region 2 with (go_at_call 44; refine AC.out.mono ?_; rintro e w3 ⟨rfl, hb3⟩; replace hb3 := Lib.hid hb3)
          go_wp2
          go_ret
          exact ⟨by rw [e1.out, e2.out]; rfl, hb3.out⟩
        · have hq1 : decide (gap < nextM M num - minM M num) = false := decide_eq_false hq
          have e2 := Lib.hid (show decide (gap < nextM M num - minM M num) = false from decide_eq_false hq)
          replace hq := Lib.hid hq
          go_enter Tryd.func28, Tryd.ntmps28
          go_upto_region 2 with (go_at_call 44; refine AC.out.mono ?_; rintro e w3 ⟨rfl, hb3⟩; replace hb3 := Lib.hid hb3)
          go_wp2
          go_ret
          exact ⟨by rw [e1.out, e2.out]; rfl, hb3.out⟩
    · have hwd : decide (0 ≤ gap) = false := decide_eq_false hw
      have e1 := Lib.hid (show quietM M num gap = false by unfold quietM; rw [hwd]; simp)
      replace AC := Lib.hid AC
      clear hh
      go_enter Tryd.func28, Tryd.ntmps28
      go_upto_region 2 with (go_at_call 44; refine AC.out.mono ?_; rintro e w3 ⟨rfl, hb3⟩; replace hb3 := Lib.hid hb3)
      go_wp2
      go_ret
      exact ⟨by rw [e1.out]; rfl, hb3.out⟩
end Go.Proofs.YtonlbeonblpblaaDoor.A36
namespace Go.Proofs.YtonlbeonblpblaaDoor.A36
open Go.RowKit Go.Proofs.YtonlbeonblpblaaDoorW.PrintWords Go.Proofs.YtonlbeonblpblaaDoorW.PrintLast Go.Proofs.YtonlbeonblpblaaDoorW.PrintMore Go.Proofs.YtonlbeonblpblaaDoor.Wd
set_option linter.unusedVariables false
set_option linter.unusedSimpArgs false
private theorem ymAdd (motive : Option Value → Sort _) (h1 : (b : Bool) → motive (some (.bool b))) (h2 : (x : Option Value) → motive x) : Go.yielded.match_1 motive (some undef) h1 h2 = h2 (some undef) := rfl
attribute [local go_sem, local simp] ymAdd
/-- What a table's turning leaves: all that is no item and not the table's head; and what lay ahead of its row. -/
structure TK (base b : Nat) (w w' : World) : Prop where
  os : w'.os = w.os
  tape : w'.tape = w.tape
  output : w'.output = w.output
  size : w.heap.size ≤ w'.heap.size
  old : ∀ k, k < base → k < w.heap.size → k ≠ b → w'.heap[k]? = w.heap[k]?
  kind : ∀ k o, w.heap[k]? = some o → k ≠ b → (∀ cur, o ≠ .cells cur 93) → w'.heap[k]? = some o
theorem TK.refl (base b : Nat) (w : World) : TK base b w w := ⟨rfl, rfl, rfl, Nat.le_refl _, fun _ _ _ _ => rfl, fun _ _ h _ _ => h⟩
theorem TK.trans {base b : Nat} {x y z : World} (h : TK base b x y) (k : TK base b y z) : TK base b x z :=
  ⟨k.os.trans h.os, k.tape.trans h.tape, k.output.trans h.output, Nat.le_trans h.size k.size, fun i h1 h2 h3 => (k.old i h1 (Nat.lt_of_lt_of_le h2 h.size) h3).trans (h.old i h1 h2 h3), fun i o h1 h2 h3 => k.kind i o (h.kind i o h1 h2 h3) h2 h3⟩
theorem TK.of_below {base b : Nat} {w w' : World} (h : Below w.heap.size w w') : TK base b w w' :=
  ⟨h.os, h.tape, h.output, h.size, fun k _ h2 _ => h.block k h2, fun k o h1 _ _ => (h.block k (lt_heap h1)).trans h1⟩
theorem TK.setCell {base b : Nat} {w w' : World} (h : TK base b w w') (u : Value) (j : Nat) : TK base b w (w'.setCell { block := b, off := j } u) :=
  h.trans ⟨rfl, rfl, rfl, by simp [World.setCell], fun k _ _ hb => Below.heap_setCell _ _ _ _ hb, fun k o h1 h2 _ => (Below.heap_setCell _ _ _ _ h2).trans h1⟩
theorem TK.below {base b B : Nat} {w0 w w' : World} (h : TK base b w w') (hb : Below B w0 w) (h1 : B ≤ base) (h2 : B ≤ b) (hB : B ≤ w.heap.size) : Below B w0 w' :=
  ⟨h.os.trans hb.os, h.tape.trans hb.tape, h.output.trans hb.output, Nat.le_trans hb.size h.size, fun k hk => (h.old k (by omega) (by omega) (by omega)).trans (hb.block k hk)⟩
theorem own_size {w : World} {base : Nat} {e : TypeId} {size n : Nat} {v : Value} {xs : List Value} (h : w.ownsRow base e size v n xs) : ∀ g, v.ownBlock = some g → ∃ cur, w.heap[g]? = some (.cells cur e) := fun g hg => by
  rcases h.2 with ⟨rfl, _⟩ | ⟨q, cap, cur, rfl, _, hh, _⟩
  · cases hg
  · injection hg with hg
    subst hg
    exact ⟨cur, hh⟩
theorem TK.grown {base b : Nat} {w w' : World} {v : Value} {n : Nat} {xs : List Value} (ho : w.ownsRow base 93 3 v n xs) (hg : w.grownBy w' v.ownBlock) : TK base b w w' :=
  ⟨hg.os, hg.tape, hg.output, hg.size, fun k h1 h2 _ => hg.block k h2 (fun e => by have := own_base ho _ e.symm; omega), fun k o h1 _ h3 => (hg.block k (lt_heap h1) (fun e => by
    obtain ⟨cur, hc⟩ := own_size ho _ e.symm
    rw [hc] at h1
    injection h1 with h1
    exact h3 cur h1.symm)).trans h1⟩
/-- The error's number of a moment more. -/
def addC (M : List It) (num m : Int) : Int :=
  if num < 1 ∨ 65535 < num ∨ m < 0 ∨ 1073741824 < m then 2 else if 0 < M.length ∧ (num ≤ (M.getD (M.length - 1) ⟨0, 0, false⟩).n ∨ m < (M.getD (M.length - 1) ⟨0, 0, false⟩).m) then 15 else 0
def addM (M : List It) (num m : Int) : List It := if addC M num m = 0 then M ++ [⟨num, m, false⟩] else M
theorem item_info : (Tryd.prog.info? 93).map (fun i => (i.zero, i.size, i.bytes)) = some (some (.agg #[.int .u64 0, .int .i64 0, .bool false]), 3, 24) := by kernel_rfl
def AddPost (M : List It) (num m : Int) (base b : Nat) (w : World) (e : Ending) (w' : World) : Prop := e = .returned (.int .i64 (addC M num m)) ∧ (∃ A c, TAt w' base b A c (addM M num m)) ∧ TK base b w w'
theorem add_same {M : List It} {num m k : Int} {base b c : Nat} {A : Option Addr} {w : World} (h : TAt w base b A c M) (hc : addC M num m = k) (hk : k ≠ 0) : AddPost M num m base b w (.returned (.int .i64 k)) w :=
  ⟨by rw [hc], ⟨A, c, by unfold addM; rw [if_neg (by rw [hc]; exact hk)]; exact h⟩, TK.refl _ _ _⟩
set_option maxRecDepth 100000 in
set_option maxHeartbeats 2000000 in
theorem add_range {b : Nat} {w : World} (num m : Int) (hr : num < 1 ∨ 65535 < num ∨ m < 0 ∨ 1073741824 < m) :
    Calls Tryd.prog 13 #[.pointer (some ⟨b, 0, none⟩), .int .u64 num, .int .i64 m] w fun e w' => e = .returned (.int .i64 2) ∧ w = w' := by
  have hr' := Lib.hid hr
  clear hr
  by_cases h1 : num < 1
  · go_enter Tryd.func13, Tryd.ntmps13
    go_wp2
    go_ret
    exact ⟨rfl, rfl⟩
  by_cases h2 : 65535 < num
  · go_enter Tryd.func13, Tryd.ntmps13
    go_wp2
    go_ret
    exact ⟨rfl, rfl⟩
  by_cases h3 : m < 0
  · go_enter Tryd.func13, Tryd.ntmps13
    go_wp2
    go_ret
    exact ⟨rfl, rfl⟩
  have h4 : 1073741824 < m := by have := hr'.out; omega
  go_enter Tryd.func13, Tryd.ntmps13
  go_wp2
  go_ret
  exact ⟨rfl, rfl⟩
set_option maxRecDepth 100000 in
set_option maxHeartbeats 2000000 in
theorem add_past {M : List It} {A : Option Addr} {base b c : Nat} {w : World} (h : TAt w base b A c M) (num m : Int) (hr : ¬ (num < 1 ∨ 65535 < num ∨ m < 0 ∨ 1073741824 < m)) (h0 : 0 < M.length) (hl : M.length ≤ 1000) (hp : num ≤ (M.getD (M.length - 1) ⟨0, 0, false⟩).n ∨ m < (M.getD (M.length - 1) ⟨0, 0, false⟩).m) :
    Calls Tryd.prog 13 #[.pointer (some ⟨b, 0, none⟩), .int .u64 num, .int .i64 m] w fun e w' => e = .returned (.int .i64 15) ∧ w = w' := by
  obtain ⟨r1, r2, r3, r4⟩ : ¬ num < 1 ∧ ¬ 65535 < num ∧ ¬ m < 0 ∧ ¬ 1073741824 < m := ⟨by omega, by omega, by omega, by omega⟩
  have hlt : M.length - 1 < M.length := by omega
  have hc := h.cell
  obtain ⟨q, rfl, hq, hcc⟩ := h.row h0
  obtain ⟨e0, e1, e2⟩ := hcc _ hlt
  have ex : M.getD (M.length - 1) ⟨0, 0, false⟩ = M[M.length - 1] := by rw [List.getD_eq_getElem?_getD, List.getElem?_eq_getElem hlt]; rfl
  rw [ex] at hp
  clear hcc ex h hr
  generalize M[M.length - 1] = x at *
  have d1 : IntKind.i64.wrap ((M.length : Int) - 1) = (M.length : Int) - 1 := IntWalk.i64_in _ (by omega)
  have hnn : ((M.length : Int) - 1).toNat = M.length - 1 := by omega
  by_cases h5 : num ≤ x.n
  · go_enter Tryd.func13, Tryd.ntmps13
    go_wp2
    go_ret
    exact ⟨rfl, rfl⟩
  · have h6 : m < x.m := by omega
    clear hp
    go_enter Tryd.func13, Tryd.ntmps13
    go_wp2
    go_ret
    exact ⟨rfl, rfl⟩
theorem itcs_one (M : List It) (x : It) : itcs (M ++ [x]) = itcs M ++ [.int .u64 x.n, .int .i64 x.m, .bool x.o] := by rw [itcs_app]; rfl
theorem reads3 {w : World} {q : Nat} {t : TypeId} {a b c : Value} (h : w.heap[q]? = some (.cells #[a, b, c] t)) : Reads w (q + 1) 3 (some ⟨q, 0, none⟩) 1 [a, b, c] := by
  refine ⟨rfl, fun _ => ⟨_, rfl, Nat.lt_succ_self _, fun j v hv => ?_⟩⟩
  have e1 : Addr.add ⟨q, 0, none⟩ j = ⟨q, j, none⟩ := by
    unfold Addr.add
    split
    · subst_vars; rfl
    · simp
  rw [e1, cell_of_row _ _ j _ _ (0, 0) h]
  simpa using hv
theorem add_end {M : List It} {x : It} {base b c : Nat} {A : Option Addr} {w w1 : World} {v : Value} {o : Obj} (h : TAt w base b A c M) (ho : w1.ownsRow base 93 3 v (M.length + 1) (itcs M ++ [.int .u64 x.n, .int .i64 x.m, .bool x.o])) (hg : (w.alloc o).grownBy w1 (Value.slice A M.length c).ownBlock) :
    (∃ A c, TAt (w1.setCell { block := b, off := 0 } v) base b A c (M ++ [x])) ∧ TK base b w (w1.setCell { block := b, off := 0 } v) ∧ w1.cell? { block := b, off := 0 } = some (.slice A M.length c) ∧ w1.frozen? { block := b, off := 0 } = false := by
  have hb0 : Below w.heap.size w (w.alloc o) := below_alloc (Below.refl _ _) o
  have h1 := h.below hb0
  have t1 := TK.grown (b := b) h1.own hg
  have hh : w1.heap[b]? = some (.cells #[.slice A M.length c] 91) := (hg.block b h1.lt (fun e => by
    obtain ⟨cur, hc⟩ := own_size h1.own _ e.symm
    exact heap_ne h1.head hc (by simp) rfl)).trans h1.head
  obtain ⟨A', c', rfl, hc'⟩ := own_slice_cap ho
  refine ⟨⟨A', c', ?_, ?_⟩, ((TK.of_below hb0).trans t1).setCell _ _, cell_of_row _ b 0 _ _ (0, 0) hh, frozen_of_row _ b 0 _ _ hh⟩
  · rw [List.length_append, List.length_singleton]
    simp [World.setCell, Array.getElem?_modify, hh]
  · rw [List.length_append, List.length_singleton, itcs_one]
    refine own_chg (S := (· = b)) ho (Chg.setCell (S := (· = b)) (Chg.refl _ _) (p := { block := b, off := 0 }) rfl _) (fun k cur hk e => ?_)
    subst e
    exact heap_ne hh hk (by simp) rfl
set_option maxRecDepth 100000 in
set_option maxHeartbeats 2000000 in
theorem add_done {M : List It} {A : Option Addr} {base b c : Nat} {w : World} (h : TAt w base b A c M) (num m : Int) (hr : ¬ (num < 1 ∨ 65535 < num ∨ m < 0 ∨ 1073741824 < m)) (hl : M.length ≤ 1000) (hbw : base ≤ w.heap.size)
    (hp : ¬ (0 < M.length ∧ (num ≤ (M.getD (M.length - 1) ⟨0, 0, false⟩).n ∨ m < (M.getD (M.length - 1) ⟨0, 0, false⟩).m))) :
    Calls Tryd.prog 13 #[.pointer (some ⟨b, 0, none⟩), .int .u64 num, .int .i64 m] w fun e w' => e = .returned (.int .i64 0) ∧ (∃ A c, TAt w' base b A c (M ++ [⟨num, m, false⟩])) ∧ TK base b w w' := by
  obtain ⟨i0, hi, hz0, hz1, hz2⟩ := info_parts item_info
  obtain ⟨r1, r2, r3, r4⟩ : ¬ num < 1 ∧ ¬ 65535 < num ∧ ¬ m < 0 ∧ ¬ 1073741824 < m := ⟨by omega, by omega, by omega, by omega⟩
  have hc := h.cell
  have hi' := Lib.hid hi
  have H := Lib.hid h
  have hx1 := Lib.hid (show M.length + 1 ≤ maxLen ∧ (M.length + 1) * 24 ≤ 140737488355328 by unfold maxLen; omega)
  have HO := Lib.hid (h.own.alloc (.cells #[.int .u64 num, .int .i64 m, .bool false] 93))
  have hbz := Lib.hid (show base ≤ (w.alloc (.cells #[.int .u64 num, .int .i64 m, .bool false] 93)).heap.size by simp; omega)
  clear hi hr hbw
  have K : Hid (∀ v w1, w1.ownsRow base 93 3 v (M.length + 1) (itcs M ++ [.int .u64 num, .int .i64 m, .bool false]) → (w.alloc (.cells #[.int .u64 num, .int .i64 m, .bool false] 93)).grownBy w1 (Value.slice A M.length c).ownBlock → _) := Lib.hid (fun v w1 ho hg => add_end (x := ⟨num, m, false⟩) H.out ho hg)
  by_cases h0 : 0 < M.length
  · have hlt : M.length - 1 < M.length := by omega
    obtain ⟨q, hA, hq, hcc⟩ := h.row h0
    obtain ⟨e0, e1, e2⟩ := hcc _ hlt
    have ex : M.getD (M.length - 1) ⟨0, 0, false⟩ = M[M.length - 1] := by rw [List.getD_eq_getElem?_getD, List.getElem?_eq_getElem hlt]; rfl
    rw [ex] at hp
    have p1 : ¬ num ≤ M[M.length - 1].n := fun e => hp ⟨h0, .inl e⟩
    have p2 : ¬ m < M[M.length - 1].m := fun e => hp ⟨h0, .inr e⟩
    clear hcc ex h hp e2
    subst hA
    generalize M[M.length - 1] = x at *
    have d1 : IntKind.i64.wrap ((M.length : Int) - 1) = (M.length : Int) - 1 := IntWalk.i64_in _ (by omega)
    have hnn : ((M.length : Int) - 1).toNat = M.length - 1 := by omega
    go_enter Tryd.func13, Tryd.ntmps13
    go_wp2_with (at_builtin
                 refine wpList_append_any _ rfl _ _ 89 rfl base 93 i0 _ 3 24 Tryd.underlying89 hi'.out hz0 hz1 hz2 rfl (by decide) _ _ _ rfl HO.out _ _ 1 1 _ rfl (reads3 (heap_alloc_new w _)) (by simp [Value.oneCell']) hx1.out.1 hx1.out.2 hbz.out ?_
                 intro v1 w1 ho1 hg1 ha1
                 obtain ⟨A1, c1, rfl, hcap1⟩ := own_slice_cap ho1
                 obtain ⟨k1, k2, k3, k4⟩ := K.out _ w1 ho1 hg1
                 replace k1 := Lib.hid k1
                 replace k2 := Lib.hid k2
                 clear ho1 hg1 ha1 hcap1)
    go_ret
    exact ⟨rfl, k1.out, k2.out⟩
  · have hd0 : decide ((0 : Int) < (M.length : Int)) = false := decide_eq_false (by omega)
    have hd1 : decide (0 < M.length) = false := decide_eq_false h0
    clear h hp
    go_enter Tryd.func13, Tryd.ntmps13
    go_wp2_with (at_builtin
                 refine wpList_append_any _ rfl _ _ 89 rfl base 93 i0 _ 3 24 Tryd.underlying89 hi'.out hz0 hz1 hz2 rfl (by decide) _ _ _ rfl HO.out _ _ 1 1 _ rfl (reads3 (heap_alloc_new w _)) (by simp [Value.oneCell']) hx1.out.1 hx1.out.2 hbz.out ?_
                 intro v1 w1 ho1 hg1 ha1
                 obtain ⟨A1, c1, rfl, hcap1⟩ := own_slice_cap ho1
                 obtain ⟨k1, k2, k3, k4⟩ := K.out _ w1 ho1 hg1
                 replace k1 := Lib.hid k1
                 replace k2 := Lib.hid k2
                 clear ho1 hg1 ha1 hcap1)
    go_ret
    exact ⟨rfl, k1.out, k2.out⟩
theorem add_calls {M : List It} {A : Option Addr} {base b c : Nat} {w : World} (h : TAt w base b A c M) (num m : Int) (hl : M.length ≤ 1000) (hbw : base ≤ w.heap.size) :
    Calls Tryd.prog 13 #[.pointer (some ⟨b, 0, none⟩), .int .u64 num, .int .i64 m] w (AddPost M num m base b w) := by
  by_cases hr : num < 1 ∨ 65535 < num ∨ m < 0 ∨ 1073741824 < m
  · exact (add_range num m hr).mono fun e w' ⟨he, hw⟩ => by subst he hw; exact add_same h (by unfold addC; rw [if_pos hr]) (by decide)
  · by_cases hp : 0 < M.length ∧ (num ≤ (M.getD (M.length - 1) ⟨0, 0, false⟩).n ∨ m < (M.getD (M.length - 1) ⟨0, 0, false⟩).m)
    · exact (add_past h num m hr hp.1 hl hp.2).mono fun e w' ⟨he, hw⟩ => by subst he hw; exact add_same h (by unfold addC; rw [if_neg hr, if_pos hp]) (by decide)
    · have hc : addC M num m = 0 := by unfold addC; rw [if_neg hr, if_neg hp]
      exact (add_done h num m hr hl hbw hp).mono fun e w' ⟨he, hx, hk⟩ => ⟨by rw [hc]; exact he, by unfold addM; rw [if_pos hc]; exact hx, hk⟩
end Go.Proofs.YtonlbeonblpblaaDoor.A36
namespace Go.Proofs.YtonlbeonblpblaaDoor.A36
open Go.RowKit Go.Proofs.YtonlbeonblpblaaDoorW.PrintWords Go.Proofs.YtonlbeonblpblaaDoorW.PrintLast Go.Proofs.YtonlbeonblpblaaDoorW.PrintMore Go.Proofs.YtonlbeonblpblaaDoor.Wd
set_option linter.unusedVariables false
set_option linter.unusedSimpArgs false
private theorem ymRules (motive : Option Value → Sort _) (h1 : (b : Bool) → motive (some (.bool b))) (h2 : (x : Option Value) → motive x) : Go.yielded.match_1 motive (some undef) h1 h2 = h2 (some undef) := rfl
attribute [local go_sem, local simp] ymRules
/-- A rule: kind, length, how long. -/
structure Ru where
  k : Int
  l : Int
  f : Int
def zr : Ru := ⟨0, 0, 0⟩
def ruc (r : Ru) : List Value := [.int .i64 r.k, .int .i64 r.l, .int .i64 r.f]
def rucs (L : List Ru) : List Value := L.flatMap ruc
def kRu : Kd Ru := Kd.iso (Kd.pair (Kd.int .i64) (Kd.pair (Kd.int .i64) (Kd.int .i64))) fun a => (a.k, a.l, a.f)
theorem kRu_cells {w : World} {a : Ru} {cs : List Value} (h : kRu.K w a cs) : cs = ruc a := by
  obtain ⟨c0, c1, rfl, h0, c2, c3, rfl, h2, h4⟩ := h
  have h0 : c0 = _ := h0
  have h2 : c2 = _ := h2
  have h4 : c3 = _ := h4
  rw [h0, h2, h4]
  rfl
def RuWf (a : Ru) : Prop := (Lit.int .i64 a.k).wf = true ∧ (Lit.int .i64 a.l).wf = true ∧ (Lit.int .i64 a.f).wf = true
theorem opensRu {H : Type} {enc : TypeId × Value → H} : Go.Proofs.YtonlbeonblpblaaDoorO.Opens enc Tryd.prog 46 kRu RuWf :=
  Go.Proofs.YtonlbeonblpblaaDoorO.opens_struct Tryd.underlying46 (by kernel_rfl)
    (Go.Proofs.YtonlbeonblpblaaDoorO.opensFs_cons rfl (Go.Proofs.YtonlbeonblpblaaDoorO.opens_int Tryd.underlying3 (by kernel_rfl)) (Go.Proofs.YtonlbeonblpblaaDoorO.opensFs_cons rfl (Go.Proofs.YtonlbeonblpblaaDoorO.opens_int Tryd.underlying3 (by kernel_rfl)) (Go.Proofs.YtonlbeonblpblaaDoorO.opensFs_last rfl (Go.Proofs.YtonlbeonblpblaaDoorO.opens_int Tryd.underlying3 (by kernel_rfl)))))
    (fun a : Ru => (a.k, a.l, a.f)) (fun a => ⟨a.1, a.2.1, a.2.2⟩) (fun _ => rfl)
theorem opensRus {H : Type} {enc : TypeId × Value → H} : Go.Proofs.YtonlbeonblpblaaDoorO.Opens enc Tryd.prog 22 (Kd.slice 46 kRu) (fun l => l.length ≤ maxLen ∧ l.length * Tryd.prog.bytesOf 46 ≤ 140737488351232 ∧ ∀ a ∈ l, RuWf a) :=
  Go.Proofs.YtonlbeonblpblaaDoorO.opens_slice Tryd.underlying22 (by kernel_rfl) opensRu
/-- Rule number i of a row. -/
structure RuAt (w : World) (ad : Addr) (i : Nat) (a : Ru) : Prop where
  c0 : w.cell? (ad.add (i * 3)) = some (.int .i64 a.k)
  c1 : w.cell? { block := (ad.add (i * 3)).block, off := (ad.add (i * 3)).off + 1 } = some (.int .i64 a.l)
  c2 : w.cell? { block := (ad.add (i * 3)).block, off := (ad.add (i * 3)).off + 2 } = some (.int .i64 a.f)
/-- Rules in a row, to be read; below B. -/
def RuRow (w : World) (B : Nat) (A : Option Addr) (L : List Ru) : Prop := 0 < L.length → ∃ ad, A = some ad ∧ ad.block < B ∧ ∀ i (h : i < L.length), RuAt w ad i L[i]
theorem RuRow.keep {w w2 : World} {B : Nat} {A : Option Addr} {L : List Ru} (h : RuRow w B A L) (hk : ∀ p : Addr, p.block < B → w2.cell? p = w.cell? p) : RuRow w2 B A L := fun h0 => by
  obtain ⟨ad, e, hb, hc⟩ := h h0
  have hbb : ∀ i, (ad.add (i * 3)).block < B := fun i => by rw [block_of_add]; exact hb
  exact ⟨ad, e, hb, fun i hi => ⟨(hk _ (hbb i)).trans (hc i hi).c0, (hk { block := (ad.add (i * 3)).block, off := (ad.add (i * 3)).off + 1 } (hbb i)).trans (hc i hi).c1, (hk { block := (ad.add (i * 3)).block, off := (ad.add (i * 3)).off + 2 } (hbb i)).trans (hc i hi).c2⟩⟩
theorem RuRow.below {w w2 : World} {B : Nat} {A : Option Addr} {L : List Ru} (h : RuRow w B A L) (hb : Below B w w2) : RuRow w2 B A L := h.keep fun _ hp => hb.cell hp
theorem ru_came {w : World} {A : Option Addr} {L : List Ru} (h : Kd.C kRu w A L.length L) (hB : ∀ ad, A = some ad → 0 < L.length → ad.block < w.heap.size) : RuRow w w.heap.size A L := fun h0 => by
  obtain ⟨ad, _, hA, _, _, _⟩ := Kd.C_get h zr (0 : Int) (by omega) (by omega)
  refine ⟨ad, hA, hB ad hA h0, fun i hi => ?_⟩
  obtain ⟨ad2, c, hA2, hl, hK, hc⟩ := Kd.C_get h zr (i : Int) (by omega) (by omega)
  rw [hA] at hA2
  injection hA2 with e
  subst e
  have hcs := kRu_cells hK
  have hg : L.getD (i : Int).toNat zr = L[i] := by rw [Int.toNat_natCast, List.getD_eq_getElem?_getD, List.getElem?_eq_getElem hi]; rfl
  rw [hg] at hcs
  subst hcs
  rw [Int.toNat_natCast] at hc
  have H : ∀ j u, 0 < j → (ruc L[i])[j]? = some u → w.cell? { block := (ad.add (i * 3)).block, off := (ad.add (i * 3)).off + j } = some u := fun j u hj hu => (add_field ad (i * 3) j hj) ▸ hc j u hu
  exact ⟨hc 0 _ rfl, H 1 _ (by decide) rfl, H 2 _ (by decide) rfl⟩
/-- Is a rule right? -/
def spanB (n : Int) : Bool := decide (1 ≤ n) && decide (n ≤ 1073741824)
def rightB (r : Ru) : Bool := if r.k = 1 ∨ r.k = 4 then decide (r.l = 0) && spanB r.f else if r.k = 2 ∨ r.k = 3 then spanB r.l && spanB r.f else false
set_option maxRecDepth 100000 in
theorem span_calls (n : Int) (w : World) : Calls Tryd.prog 35 #[.int .i64 n] w fun e w' => e = .returned (.bool (spanB n)) ∧ w = w' := by
  by_cases h : 1 ≤ n
  · have e1 := Lib.hid (show spanB n = decide (n ≤ 1073741824) by unfold spanB; rw [decide_eq_true h]; rfl)
    go_enter Tryd.func35, Tryd.ntmps35
    go_wp2
    go_ret
    exact ⟨by rw [e1.out]; rfl, rfl⟩
  · have e1 := Lib.hid (show spanB n = false by unfold spanB; rw [decide_eq_false h]; rfl)
    have h' : n < 1 := by omega
    go_enter Tryd.func35, Tryd.ntmps35
    go_wp2
    go_ret
    exact ⟨by rw [e1.out]; rfl, rfl⟩
set_option maxRecDepth 100000 in
set_option maxHeartbeats 1000000 in
theorem right_calls (r : Ru) (w : World) : Calls Tryd.prog 14 #[.agg #[.int .i64 r.k, .int .i64 r.l, .int .i64 r.f]] w fun e w' => e = .returned (.bool (rightB r)) ∧ Below w.heap.size w w' := by
  have SC := Lib.hid (fun (n : Int) (w : World) => span_calls n w)
  by_cases h1 : r.k = 1 ∨ r.k = 4
  · by_cases hl : r.l = 0
    · have e1 := Lib.hid (show rightB r = spanB r.f by unfold rightB; rw [if_pos h1, decide_eq_true hl]; rfl)
      replace h1 := Lib.hid h1
      generalize r.k = k at *
      generalize r.l = l at *
      subst hl
      rcases h1.out with rfl | rfl
      all_goals
        go_enter Tryd.func14, Tryd.ntmps14
        go_wp2_with (go_at_call 35; refine (SC.out _ _).mono ?_; rintro e w' ⟨rfl, rfl⟩)
        go_ret
        exact ⟨by rw [e1.out]; rfl, below_alloc (Below.refl _ _) _⟩
    · have e1 := Lib.hid (show rightB r = false by unfold rightB; rw [if_pos h1, decide_eq_false hl]; rfl)
      have hl2 : (r.l == 0) = false := by simpa using hl
      replace h1 := Lib.hid h1
      generalize r.k = k at *
      generalize r.l = l at *
      rcases h1.out with rfl | rfl
      all_goals
        go_enter Tryd.func14, Tryd.ntmps14
        go_wp2_with (go_at_call 35; refine (SC.out _ _).mono ?_; rintro e w' ⟨rfl, rfl⟩)
        go_ret
        exact ⟨by rw [e1.out]; rfl, below_alloc (Below.refl _ _) _⟩
  · by_cases h2 : r.k = 2 ∨ r.k = 3
    · have e0 := Lib.hid (show rightB r = (spanB r.l && spanB r.f) by unfold rightB; rw [if_neg h1, if_pos h2])
      replace h2 := Lib.hid h2
      clear h1
      cases hs : spanB r.l with
      | true =>
        have e1 := Lib.hid (show rightB r = spanB r.f by rw [e0.out, hs]; rfl)
        have SL := SC.out r.l
        rw [hs] at SL
        replace SL := Lib.hid SL
        clear hs
        generalize r.k = k at *
        rcases h2.out with rfl | rfl
        all_goals
          go_enter Tryd.func14, Tryd.ntmps14
          go_wp2_with (first
            | (go_at_call 35; (with_reducible refine (SL.out _).mono ?_); rintro e w' ⟨rfl, rfl⟩)
            | (go_at_call 35; refine (SC.out _ _).mono ?_; rintro e w' ⟨rfl, rfl⟩))
          go_ret
          exact ⟨by rw [e1.out]; rfl, below_alloc (Below.refl _ _) _⟩
      | false =>
        have e1 := Lib.hid (show rightB r = false by rw [e0.out, hs]; rfl)
        have SL := SC.out r.l
        rw [hs] at SL
        replace SL := Lib.hid SL
        clear hs
        generalize r.k = k at *
        rcases h2.out with rfl | rfl
        all_goals
          go_enter Tryd.func14, Tryd.ntmps14
          go_wp2_with (go_at_call 35; refine (SL.out _).mono ?_; rintro e w' ⟨rfl, rfl⟩)
          go_ret
          exact ⟨by rw [e1.out]; rfl, below_alloc (Below.refl _ _) _⟩
    · have e1 := Lib.hid (show rightB r = false by unfold rightB; rw [if_neg h1, if_neg h2])
      have k1 : (r.k == 1) = false := by simp; omega
      have k2 : (r.k == 2) = false := by simp; omega
      have k3 : (r.k == 3) = false := by simp; omega
      have k4 : (r.k == 4) = false := by simp; omega
      clear h1 h2
      go_enter Tryd.func14, Tryd.ntmps14
      go_wp2
      go_ret
      exact ⟨by rw [e1.out]; rfl, below_alloc (Below.refl _ _) _⟩
end Go.Proofs.YtonlbeonblpblaaDoor.A36
