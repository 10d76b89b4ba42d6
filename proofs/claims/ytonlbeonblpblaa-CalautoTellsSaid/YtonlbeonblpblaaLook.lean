/-
  What a table tells: its length, its last moment, the next one, whether a moment is the last of its window, whether it is quiet. No condition but that the table lies as its row says, its numbers rise and its minutes are minutes, and it is short.
-/
import Derived.Test.YtonlbeonblpblaaFind
namespace Go.Proofs.Ytonlbeonblpblaa.All
open Go.RowKit Go.Proofs.YtonlbeonblpblaaW.PrintWords Go.Proofs.YtonlbeonblpblaaW.PrintLast Go.Proofs.YtonlbeonblpblaaW.PrintMore Go.Proofs.Ytonlbeonblpblaa.Wd
set_option linter.unusedVariables false
set_option linter.unusedSimpArgs false
private theorem ym (motive : Option Value → Sort _) (h1 : (b : Bool) → motive (some (.bool b))) (h2 : (x : Option Value) → motive x) : Go.yielded.match_1 motive (some undef) h1 h2 = h2 (some undef) := rfl
attribute [local go_sem, local simp] ym
/-- Rising numbers, and minutes that are. -/
structure Good (M : List It) : Prop where
  up : Up M
  min : ∀ x ∈ M, 0 ≤ x.m ∧ x.m ≤ 1073741824
  len : M.length ≤ 1000
def nextI (M : List It) (num : Int) : Nat := lb M num + if hit M num = true then 1 else 0
def nextN (M : List It) (num : Int) : Int := match M[nextI M num]? with | some x => x.n | none => 0
def nextM (M : List It) (num : Int) : Int := match M[nextI M num]? with | some x => x.m | none => 0
def isLast (M : List It) (num : Int) : Bool := decide (M.length ≤ nextI M num)
theorem lb_at {M : List It} (hu : Up M) {i : Nat} (hi : i < M.length) : lb M M[i].n = i :=
  lb_eq (Nat.le_of_lt hi) (fun t h ht => hu t i h hi ht) (fun h => by omega)
theorem hit_in {M : List It} (hu : Up M) {i : Nat} (hi : i < M.length) : hit M M[i].n = true := by
  unfold hit
  rw [lb_at hu hi, List.getElem?_eq_getElem hi]
  simp
theorem min_at {M : List It} (hu : Up M) {i : Nat} (hi : i < M.length) : minM M M[i].n = M[i].m := by
  unfold minM
  rw [lb_at hu hi, List.getElem?_eq_getElem hi]
  simp
theorem minM_rng {M : List It} (g : Good M) (num : Int) : 0 ≤ minM M num ∧ minM M num ≤ 1073741824 := by
  cases h : hit M num with
  | true =>
    obtain ⟨hl, _, e⟩ := hit_at h
    rw [e]
    exact g.min _ (List.getElem_mem hl)
  | false => rw [hit_no h]; omega
theorem nextM_rng {M : List It} (g : Good M) (num : Int) : 0 ≤ nextM M num ∧ nextM M num ≤ 1073741824 := by
  unfold nextM
  by_cases h : nextI M num < M.length
  · rw [List.getElem?_eq_getElem h]; exact g.min _ (List.getElem_mem h)
  · rw [List.getElem?_eq_none (by omega)]; exact ⟨Int.le_refl _, by show (0 : Int) ≤ _; omega⟩
set_option maxRecDepth 100000 in
theorem len_calls {M : List It} {A : Option Addr} {base b c : Nat} {w : World} (h : TAt w base b A c M) :
    Calls Try.prog 44 #[.pointer (some ⟨b, 0, none⟩)] w fun e w' => e = .returned (.int .i64 (M.length : Nat)) ∧ w = w' := by
  have hc := h.cell
  clear h
  go_enter Try.func44, Try.ntmps44
  go_wp2
  go_ret
  exact ⟨rfl, rfl⟩
set_option maxRecDepth 100000 in
theorem len_nil (w : World) : Calls Try.prog 44 #[.pointer none] w fun e w' => e = .returned (.int .i64 0) ∧ w = w' := by
  go_enter Try.func44, Try.ntmps44
  go_wp2
  go_ret
  exact ⟨rfl, rfl⟩
set_option maxRecDepth 100000 in
theorem new_calls (w : World) : Calls Try.prog 28 #[] w fun e w' => e = .returned (.pointer (some ⟨w.heap.size, 0, none⟩)) ∧ TAt w' w.heap.size w.heap.size none 0 [] ∧ Below w.heap.size w w' := by
  go_enter Try.func28, Try.ntmps28
  go_wp2
  go_ret
  exact ⟨rfl, ⟨heap_alloc_new w _, rfl, .inl ⟨rfl, rfl⟩⟩, below_alloc (Below.refl _ _) _⟩
set_option maxRecDepth 100000 in
set_option maxHeartbeats 1000000 in
theorem next_calls {M : List It} (g : Good M) {A : Option Addr} {base b c : Nat} {w : World} (h : TAt w base b A c M) (num : Int) :
    Calls Try.prog 56 #[.pointer (some ⟨b, 0, none⟩), .int .u64 num] w fun e w' => e = .returned (.tuple #[.int .u64 (nextN M num), .bool (!isLast M num)]) ∧ Below w.heap.size w w' := by
  have FC := Lib.hid (find_calls g.up h g.len num)
  have LC := Lib.hid (fun (w2 : World) (hb : Below w.heap.size w w2) => len_calls (h.below hb))
  have HT := Lib.hid (fun (w2 : World) (hb : Below w.heap.size w w2) => And.intro (h.below hb).cell (h.below hb).row)
  have hll := g.len
  have hlb := lb_le M num
  clear h
  have HI := Lib.hid (show nextI M num = lb M num + if hit M num = true then 1 else 0 from rfl)
  cases hh : hit M num with
  | true =>
    rw [hh] at FC HI
    rw [if_pos rfl] at HI
    clear hh
    by_cases hlt : lb M num + 1 < M.length
    · have e1 := Lib.hid (show isLast M num = false by unfold isLast; rw [HI.out]; exact decide_eq_false (by omega))
      have e2 := Lib.hid (show nextN M num = M[lb M num + 1].n by unfold nextN; rw [HI.out, List.getElem?_eq_getElem hlt])
      generalize lb M num = k at *
      have hd : decide ((M.length : Int) ≤ (k : Int) + 1) = false := decide_eq_false (by omega)
      have hdn : decide (M.length ≤ k + 1) = false := decide_eq_false (by omega)
      go_enter Try.func56, Try.ntmps56
      go_wp2_with (first
        | (go_at_call 40; refine FC.out.mono ?_; rintro e w3 ⟨rfl, hb3⟩; obtain ⟨hc, hr⟩ := HT.out w3 hb3; obtain ⟨q, rfl, hq, hcc⟩ := hr (by omega); obtain ⟨f0, f1, f2⟩ := hcc _ hlt; clear hcc; replace hb3 := Lib.hid hb3)
        | (go_at_call 44; refine (LC.out _ hb3.out).mono ?_; rintro e w' ⟨rfl, rfl⟩))
      go_ret2
      exact ⟨by rw [e1.out, e2.out]; rfl, hb3.out⟩
    · have e1 := Lib.hid (show isLast M num = true by unfold isLast; rw [HI.out]; exact decide_eq_true (by omega))
      have e2 := Lib.hid (show nextN M num = 0 by unfold nextN; rw [HI.out, List.getElem?_eq_none (by omega)])
      generalize lb M num = k at *
      have hd : decide ((M.length : Int) ≤ (k : Int) + 1) = true := decide_eq_true (by omega)
      have hdn : decide (M.length ≤ k + 1) = true := decide_eq_true (by omega)
      go_enter Try.func56, Try.ntmps56
      go_wp2_with (first
        | (go_at_call 40; refine FC.out.mono ?_; rintro e w3 ⟨rfl, hb3⟩; replace hb3 := Lib.hid hb3)
        | (go_at_call 44; refine (LC.out _ hb3.out).mono ?_; rintro e w' ⟨rfl, rfl⟩))
      go_ret2
      exact ⟨by rw [e1.out, e2.out]; rfl, hb3.out⟩
  | false =>
    rw [hh] at FC HI
    rw [if_neg (by decide), Nat.add_zero] at HI
    clear hh
    by_cases hlt : lb M num < M.length
    · have e1 := Lib.hid (show isLast M num = false by unfold isLast; rw [HI.out]; exact decide_eq_false (by omega))
      have e2 := Lib.hid (show nextN M num = M[lb M num].n by unfold nextN; rw [HI.out, List.getElem?_eq_getElem hlt])
      generalize lb M num = k at *
      have hd : decide ((M.length : Int) ≤ (k : Int)) = false := decide_eq_false (by omega)
      have hdn : decide (M.length ≤ k) = false := decide_eq_false (by omega)
      go_enter Try.func56, Try.ntmps56
      go_wp2_with (first
        | (go_at_call 40; refine FC.out.mono ?_; rintro e w3 ⟨rfl, hb3⟩; obtain ⟨hc, hr⟩ := HT.out w3 hb3; obtain ⟨q, rfl, hq, hcc⟩ := hr (by omega); obtain ⟨f0, f1, f2⟩ := hcc _ hlt; clear hcc; replace hb3 := Lib.hid hb3)
        | (go_at_call 44; refine (LC.out _ hb3.out).mono ?_; rintro e w' ⟨rfl, rfl⟩))
      go_ret2
      exact ⟨by rw [e1.out, e2.out]; rfl, hb3.out⟩
    · have e1 := Lib.hid (show isLast M num = true by unfold isLast; rw [HI.out]; exact decide_eq_true (by omega))
      have e2 := Lib.hid (show nextN M num = 0 by unfold nextN; rw [HI.out, List.getElem?_eq_none (by omega)])
      generalize lb M num = k at *
      have hd : decide ((M.length : Int) ≤ (k : Int)) = true := decide_eq_true (by omega)
      have hdn : decide (M.length ≤ k) = true := decide_eq_true (by omega)
      go_enter Try.func56, Try.ntmps56
      go_wp2_with (first
        | (go_at_call 40; refine FC.out.mono ?_; rintro e w3 ⟨rfl, hb3⟩; replace hb3 := Lib.hid hb3)
        | (go_at_call 44; refine (LC.out _ hb3.out).mono ?_; rintro e w' ⟨rfl, rfl⟩))
      go_ret2
      exact ⟨by rw [e1.out, e2.out]; rfl, hb3.out⟩
theorem next_min {M : List It} (g : Good M) (num : Int) (h : isLast M num = false) : minM M (nextN M num) = nextM M num ∧ hit M (nextN M num) = true := by
  have hl : nextI M num < M.length := by
    unfold isLast at h
    have := of_decide_eq_false h
    omega
  have e1 : nextN M num = M[nextI M num].n := by unfold nextN; rw [List.getElem?_eq_getElem hl]
  have e2 : nextM M num = M[nextI M num].m := by unfold nextM; rw [List.getElem?_eq_getElem hl]
  rw [e1, e2]
  exact ⟨min_at g.up hl, hit_in g.up hl⟩
/-- What ahead tells of the next one. -/
def aheadM (M : List It) (num : Int) : Int := if isLast M num = true then 0 else nextM M num
set_option maxRecDepth 100000 in
set_option maxHeartbeats 1000000 in
theorem ahead_calls {M : List It} (g : Good M) {A : Option Addr} {base b c : Nat} {w : World} (h : TAt w base b A c M) (num : Int) :
    Calls Try.prog 46 #[.pointer (some ⟨b, 0, none⟩), .int .u64 num] w fun e w' => e = .returned (.tuple #[.int .i64 (minM M num), .int .i64 (aheadM M num), .bool (hit M num), .bool (isLast M num)]) ∧ Below w.heap.size w w' := by
  have MC := Lib.hid (fun (w2 : World) (k : Int) (hb : Below w.heap.size w w2) => min_calls g.up (h.below hb) g.len k)
  have NC := Lib.hid (fun (w2 : World) (hb : Below w.heap.size w w2) => next_calls g (h.below hb) num)
  have hb0 := Lib.hid (Below.refl w.heap.size w)
  clear h
  cases hl : isLast M num with
  | true =>
    have e1 := Lib.hid (show aheadM M num = 0 by unfold aheadM; rw [if_pos hl])
    rw [hl] at NC
    clear hl
    go_enter Try.func46, Try.ntmps46
    go_wp2_with (first
      | (go_at_call 17; refine (MC.out _ _ hb0.out).mono ?_; rintro e w3 ⟨rfl, hb3⟩; replace hb0 := Lib.hid (hb0.out.trans (hb3.mono hb0.out.size)); clear hb3)
      | (go_at_call 56; refine (NC.out _ hb0.out).mono ?_; rintro e w3 ⟨rfl, hb3⟩; replace hb0 := Lib.hid (hb0.out.trans (hb3.mono hb0.out.size)); clear hb3))
    exact bodyPost_ret (v := .tuple #[.int .i64 (minM M num), .int .i64 0, .bool (hit M num), .bool true]) (by simp [results, Try.results46, go_sem]) rfl ⟨by rw [e1.out], hb0.out⟩
  | false =>
    have e1 := Lib.hid (show aheadM M num = nextM M num by unfold aheadM; rw [hl]; rfl)
    have e2 := Lib.hid (next_min g num hl).1
    rw [hl] at NC
    clear hl
    go_enter Try.func46, Try.ntmps46
    go_wp2_with (first
      | (go_at_call 17; refine (MC.out _ _ hb0.out).mono ?_; rintro e w3 ⟨rfl, hb3⟩; replace hb0 := Lib.hid (hb0.out.trans (hb3.mono hb0.out.size)); clear hb3)
      | (go_at_call 56; refine (NC.out _ hb0.out).mono ?_; rintro e w3 ⟨rfl, hb3⟩; replace hb0 := Lib.hid (hb0.out.trans (hb3.mono hb0.out.size)); clear hb3))
    exact bodyPost_ret (v := .tuple #[.int .i64 (minM M num), .int .i64 (minM M (nextN M num)), .bool (hit M num), .bool false]) (by simp [results, Try.results46, go_sem]) rfl ⟨by rw [e1.out, e2.out], hb0.out⟩
/-- The last one of its window? -/
def closesM (M : List It) (num win : Int) : Bool := hit M num && decide (1 ≤ win) && (isLast M num || decide (minM M num / win ≠ nextM M num / win))
/-- No other one soon? -/
def quietM (M : List It) (num gap : Int) : Bool := hit M num && decide (0 ≤ gap) && (isLast M num || decide (gap < nextM M num - minM M num))
theorem ahead_is {M : List It} {num : Int} (h : isLast M num = false) : aheadM M num = nextM M num := by unfold aheadM; rw [h]; rfl
set_option maxRecDepth 100000 in
set_option maxHeartbeats 1000000 in
theorem closes_calls {M : List It} (g : Good M) {A : Option Addr} {base b c : Nat} {w : World} (h : TAt w base b A c M) (num win : Int) :
    Calls Try.prog 32 #[.pointer (some ⟨b, 0, none⟩), .int .u64 num, .int .i64 win] w fun e w' => e = .returned (.bool (closesM M num win)) ∧ Below w.heap.size w w' := by
  have AC := ahead_calls g h num
  obtain ⟨m0, m1⟩ := minM_rng g num
  obtain ⟨n0, n1⟩ := nextM_rng g num
  clear h
  cases hh : hit M num with
  | false =>
    have e1 := Lib.hid (show closesM M num win = false by unfold closesM; rw [hh]; rfl)
    rw [hh] at AC
    replace AC := Lib.hid AC
    clear hh
    go_enter Try.func32, Try.ntmps32
    go_upto_region 2 with (go_at_call 46; refine AC.out.mono ?_; rintro e w3 ⟨rfl, hb3⟩; replace hb3 := Lib.hid hb3)
    go_quiet (fail)
    go_wp2
    go_ret
    exact ⟨by rw [e1.out]; rfl, Lib.hid (pw_below_drewN hb3.out _) |>.out⟩
  | true =>
    rw [hh] at AC
    by_cases hw : 1 ≤ win
    · have hwd : decide (1 ≤ win) = true := decide_eq_true hw
      cases hl : isLast M num with
      | true =>
        have e1 := Lib.hid (show closesM M num win = true by unfold closesM; rw [hh, hwd, hl]; rfl)
        rw [hl] at AC
        replace AC := Lib.hid AC
        clear hh hl
        go_enter Try.func32, Try.ntmps32
        go_upto_region 2 with (go_at_call 46; refine AC.out.mono ?_; rintro e w3 ⟨rfl, hb3⟩; replace hb3 := Lib.hid hb3)
        go_quiet (fail)
        go_wp2
        go_ret
        exact ⟨by rw [e1.out]; rfl, Lib.hid (pw_below_drewN hb3.out _) |>.out⟩
      | false =>
        have e1 := Lib.hid (show closesM M num win = decide (minM M num / win ≠ nextM M num / win) by unfold closesM; rw [hh, hwd, hl]; rfl)
        rw [hl, ahead_is hl] at AC
        replace AC := Lib.hid AC
        clear hh hl
        by_cases hq : minM M num / win = nextM M num / win
        · have hq1 : (minM M num / win != nextM M num / win) = false := by simp [bne, hq]
          have e2 := Lib.hid (show decide (minM M num / win ≠ nextM M num / win) = false from decide_eq_false (fun h => h hq))
          replace hq := Lib.hid hq
          go_enter Try.func32, Try.ntmps32
          go_upto_region 2 with (go_at_call 46; refine AC.out.mono ?_; rintro e w3 ⟨rfl, hb3⟩; replace hb3 := Lib.hid hb3)
          go_quiet (fail)
          go_wp2
          go_ret
          exact ⟨by rw [e1.out, e2.out]; rfl, Lib.hid (pw_below_drewN hb3.out _) |>.out⟩
        · have hq1 : (minM M num / win != nextM M num / win) = true := by simpa [bne] using hq
          have e2 := Lib.hid (show decide (minM M num / win ≠ nextM M num / win) = true from decide_eq_true hq)
          replace hq := Lib.hid hq
          go_enter Try.func32, Try.ntmps32
          go_upto_region 2 with (go_at_call 46; refine AC.out.mono ?_; rintro e w3 ⟨rfl, hb3⟩; replace hb3 := Lib.hid hb3)
          go_quiet (fail)
          go_wp2
          go_ret
          exact ⟨by rw [e1.out, e2.out]; rfl, Lib.hid (pw_below_drewN hb3.out _) |>.out⟩
    · have hwd : decide (1 ≤ win) = false := decide_eq_false hw
      have e1 := Lib.hid (show closesM M num win = false by unfold closesM; rw [hwd]; simp)
      replace AC := Lib.hid AC
      clear hh
      go_enter Try.func32, Try.ntmps32
      go_upto_region 2 with (go_at_call 46; refine AC.out.mono ?_; rintro e w3 ⟨rfl, hb3⟩; replace hb3 := Lib.hid hb3)
      go_quiet (fail)
      go_wp2
      go_ret
      exact ⟨by rw [e1.out]; rfl, Lib.hid (pw_below_drewN hb3.out _) |>.out⟩
set_option maxRecDepth 100000 in
set_option maxHeartbeats 1000000 in
theorem quiet_calls {M : List It} (g : Good M) {A : Option Addr} {base b c : Nat} {w : World} (h : TAt w base b A c M) (num gap : Int) :
    Calls Try.prog 34 #[.pointer (some ⟨b, 0, none⟩), .int .u64 num, .int .i64 gap] w fun e w' => e = .returned (.bool (quietM M num gap)) ∧ Below w.heap.size w w' := by
  have AC := ahead_calls g h num
  obtain ⟨m0, m1⟩ := minM_rng g num
  obtain ⟨n0, n1⟩ := nextM_rng g num
  clear h
  cases hh : hit M num with
  | false =>
    have e1 := Lib.hid (show quietM M num gap = false by unfold quietM; rw [hh]; rfl)
    rw [hh] at AC
    replace AC := Lib.hid AC
    clear hh
    go_enter Try.func34, Try.ntmps34
    go_upto_region 2 with (go_at_call 46; refine AC.out.mono ?_; rintro e w3 ⟨rfl, hb3⟩; replace hb3 := Lib.hid hb3)
    go_wp2
    go_ret
    exact ⟨by rw [e1.out]; rfl, hb3.out⟩
  | true =>
    rw [hh] at AC
    by_cases hw : 0 ≤ gap
    · have hwd : decide (0 ≤ gap) = true := decide_eq_true hw
      cases hl : isLast M num with
      | true =>
        have e1 := Lib.hid (show quietM M num gap = true by unfold quietM; rw [hh, hwd, hl]; rfl)
        rw [hl] at AC
        replace AC := Lib.hid AC
        clear hh hl
        go_enter Try.func34, Try.ntmps34
        go_upto_region 2 with (go_at_call 46; refine AC.out.mono ?_; rintro e w3 ⟨rfl, hb3⟩; replace hb3 := Lib.hid hb3)
        go_wp2
        go_ret
        exact ⟨by rw [e1.out]; rfl, hb3.out⟩
      | false =>
        have e1 := Lib.hid (show quietM M num gap = decide (gap < nextM M num - minM M num) by unfold quietM; rw [hh, hwd, hl]; rfl)
        rw [hl, ahead_is hl] at AC
        replace AC := Lib.hid AC
        clear hh hl
        by_cases hq : gap < nextM M num - minM M num
        · have hq1 : decide (gap < nextM M num - minM M num) = true := decide_eq_true hq
          have e2 := Lib.hid (show decide (gap < nextM M num - minM M num) = true from decide_eq_true hq)
          replace hq := Lib.hid hq
          go_enter Try.func34, Try.ntmps34
          go_upto_region 2 with (go_at_call 46; refine AC.out.mono ?_; rintro e w3 ⟨rfl, hb3⟩; replace hb3 := Lib.hid hb3)
          go_wp2
          go_ret
          exact ⟨by rw [e1.out, e2.out]; rfl, hb3.out⟩
        · have hq1 : decide (gap < nextM M num - minM M num) = false := decide_eq_false hq
          have e2 := Lib.hid (show decide (gap < nextM M num - minM M num) = false from decide_eq_false hq)
          replace hq := Lib.hid hq
          go_enter Try.func34, Try.ntmps34
          go_upto_region 2 with (go_at_call 46; refine AC.out.mono ?_; rintro e w3 ⟨rfl, hb3⟩; replace hb3 := Lib.hid hb3)
          go_wp2
          go_ret
          exact ⟨by rw [e1.out, e2.out]; rfl, hb3.out⟩
    · have hwd : decide (0 ≤ gap) = false := decide_eq_false hw
      have e1 := Lib.hid (show quietM M num gap = false by unfold quietM; rw [hwd]; simp)
      replace AC := Lib.hid AC
      clear hh
      go_enter Try.func34, Try.ntmps34
      go_upto_region 2 with (go_at_call 46; refine AC.out.mono ?_; rintro e w3 ⟨rfl, hb3⟩; replace hb3 := Lib.hid hb3)
      go_wp2
      go_ret
      exact ⟨by rw [e1.out]; rfl, hb3.out⟩
end Go.Proofs.Ytonlbeonblpblaa.All
