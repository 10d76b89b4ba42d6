/-
  Till when a moment stays, and whether it stays at a minute; the least of the Nevers. No condition but that the table and the keepers lie as their rows say, and that their numbers are in bounds.
-/
import Derived.Test.YtonlbeonblpblaaMins
namespace Go.Proofs.Ytonlbeonblpblaa.All
open Go.RowKit Go.Proofs.YtonlbeonblpblaaW.PrintWords Go.Proofs.YtonlbeonblpblaaW.PrintLast Go.Proofs.YtonlbeonblpblaaW.PrintMore Go.Proofs.Ytonlbeonblpblaa.Wd
set_option linter.unusedVariables false
set_option linter.unusedSimpArgs false
private theorem ym (motive : Option Value → Sort _) (h1 : (b : Bool) → motive (some (.bool b))) (h2 : (x : Option Value) → motive x) : Go.yielded.match_1 motive (some undef) h1 h2 = h2 (some undef) := rfl
attribute [local go_sem, local simp] ym
def tillF (M : List It) (num : Int) (N : Int × Bool) (rs : List Ru) : Int := (minsF M num N rs).getLastD 0
def staysF (M : List It) (num : Int) (N : Int × Bool) (rs : List Ru) (now : Int) : Bool := hit M num && decide (now < tillF M num N rs)
theorem mins_len (M : List It) (num : Int) (N : Int × Bool) (rs : List Ru) : (minsF M num N rs).length ≤ rs.length := by
  unfold minsF
  split
  · refine Nat.le_trans (comp_le _) ?_
    rw [List.length_mergeSort]
    exact raw_len M num N rs
  · simp
theorem last_get (xs : List Int) (h : 0 < xs.length) : xs.getLastD 0 = xs[xs.length - 1] := by
  cases xs with
  | nil => exact absurd h (Nat.lt_irrefl _)
  | cons x xs => rw [List.getLastD_cons, ← List.getLast_eq_getLastD (h := by simp)]; exact List.getLast_eq_getElem _
theorem last_none (xs : List Int) (h : ¬ 0 < xs.length) : xs.getLastD 0 = 0 := by
  have : xs = [] := List.eq_nil_of_length_eq_zero (by omega)
  rw [this]
  rfl
set_option maxRecDepth 100000 in
set_option maxHeartbeats 2000000 in
theorem till_calls {M : List It} (g : Good M) {A Ak : Option Addr} {base kb b c ck : Nat} {w : World} {ks : List (Ru × Nat)} {N : Int × Bool} (h : TAt w base b A c M) (hk : KAt w kb Ak ck ks) (hl : ks.length ≤ 16) (hf : ∀ p ∈ ks, 0 ≤ p.1.f ∧ p.1.f ≤ 1073741824) (hN : 0 ≤ N.1 ∧ N.1 ≤ 1073741824) (num : Int) :
    Calls Try.prog 16 #[.agg #[.slice Ak ks.length ck, .int .i64 N.1, .bool N.2], .pointer (some ⟨b, 0, none⟩), .int .u64 num] w fun e w' => e = .returned (.int .i64 (tillF M num N (ks.map (·.1)))) ∧ Below w.heap.size w w' := by
  have hb0 := below_alloc (Below.refl w.heap.size w) (.cells #[.slice Ak ks.length ck, .int .i64 N.1, .bool N.2] 32)
  have MC := Lib.hid (mins_calls g (h.below hb0) (hk.below hb0) hl hf hN num)
  have hml : (minsF M num N (ks.map (·.1))).length ≤ 16 := Nat.le_trans (mins_len _ _ _ _) (by rw [List.length_map]; exact hl)
  have e1 := Lib.hid (show tillF M num N (ks.map (·.1)) = (minsF M num N (ks.map (·.1))).getLastD 0 from rfl)
  have HB0 := Lib.hid hb0
  clear h hk hf hb0
  unfold MinsPost at MC
  generalize minsF M num N (ks.map (·.1)) = xs at *
  by_cases h0 : 0 < xs.length
  · have e2 := Lib.hid (last_get xs h0)
    have hlt : xs.length - 1 < xs.length := by omega
    have d1 : IntKind.i64.wrap ((xs.length : Int) - 1) = (xs.length : Int) - 1 := IntWalk.i64_in _ (by omega)
    have hnn : ((xs.length : Int) - 1).toNat = xs.length - 1 := by omega
    have hz : ((xs.length : Int) == 0) = false := beq_eq_false_iff_ne.2 (by omega)
    go_enter Try.func16, Try.ntmps16
    go_wp2_with (go_at_call 18; refine MC.out.mono ?_; rintro e w3 ⟨v3, rfl, ho3, hb3⟩; obtain ⟨A3, c3, rfl, hc3⟩ := own_slice_cap ho3; obtain ⟨q3, rfl, hq3⟩ := own_cell ho3 hlt; generalize xs[xs.length - 1] = y at *; replace hb3 := Lib.hid (HB0.out.trans (hb3.mono HB0.out.size)); clear ho3)
    go_ret
    exact ⟨by rw [e1.out, e2.out]; rfl, hb3.out⟩
  · have e2 := Lib.hid (last_none xs h0)
    have hz : ((xs.length : Int) == 0) = true := beq_iff_eq.2 (by omega)
    go_enter Try.func16, Try.ntmps16
    go_wp2_with (go_at_call 18; refine MC.out.mono ?_; rintro e w3 ⟨v3, rfl, ho3, hb3⟩; obtain ⟨A3, c3, rfl, hc3⟩ := own_slice_cap ho3; replace hb3 := Lib.hid (HB0.out.trans (hb3.mono HB0.out.size)); clear ho3)
    go_ret
    exact ⟨by rw [e1.out, e2.out]; rfl, hb3.out⟩
set_option maxRecDepth 100000 in
set_option maxHeartbeats 2000000 in
theorem stays_calls {M : List It} (g : Good M) {A Ak : Option Addr} {base kb b c ck : Nat} {w : World} {ks : List (Ru × Nat)} {N : Int × Bool} (h : TAt w base b A c M) (hk : KAt w kb Ak ck ks) (hl : ks.length ≤ 16) (hf : ∀ p ∈ ks, 0 ≤ p.1.f ∧ p.1.f ≤ 1073741824) (hN : 0 ≤ N.1 ∧ N.1 ≤ 1073741824) (num now : Int) :
    Calls Try.prog 23 #[.agg #[.slice Ak ks.length ck, .int .i64 N.1, .bool N.2], .pointer (some ⟨b, 0, none⟩), .int .u64 num, .int .i64 now] w fun e w' => e = .returned (.bool (staysF M num N (ks.map (·.1)) now)) ∧ Below w.heap.size w w' := by
  have hb0 := below_alloc (Below.refl w.heap.size w) (.cells #[.slice Ak ks.length ck, .int .i64 N.1, .bool N.2] 32)
  have MC := min_calls g.up (h.below hb0) g.len num
  have TC := Lib.hid (fun (w2 : World) (hb : Below w.heap.size w w2) => till_calls g (h.below hb) (hk.below hb) hl hf hN num)
  have HB0 := Lib.hid hb0
  have hbx : Hid ((w.alloc (.cells #[.slice Ak ks.length ck, .int .i64 N.1, .bool N.2] 32)).heap[w.heap.size]? = some (.cells #[.slice Ak ks.length ck, .int .i64 N.1, .bool N.2] 32)) := Lib.hid (heap_alloc_new w _)
  clear h hk hf hb0
  cases hh : hit M num with
  | false =>
    have e1 := Lib.hid (show staysF M num N (ks.map (·.1)) now = false by unfold staysF; rw [hh]; rfl)
    rw [hh] at MC
    replace MC := Lib.hid MC
    clear hh
    go_enter Try.func23, Try.ntmps23
    go_wp2_with (go_at_call 17; refine MC.out.mono ?_; rintro e w3 ⟨rfl, hb3⟩; replace hb3 := Lib.hid (HB0.out.trans (hb3.mono HB0.out.size)))
    go_ret
    exact ⟨by rw [e1.out]; rfl, hb3.out⟩
  | true =>
    have e1 := Lib.hid (show staysF M num N (ks.map (·.1)) now = decide (now < tillF M num N (ks.map (·.1))) by unfold staysF; rw [hh]; rfl)
    rw [hh] at MC
    replace MC := Lib.hid MC
    clear hh
    generalize tillF M num N (ks.map (·.1)) = t at *
    go_enter Try.func23, Try.ntmps23
    go_wp2_with (first
      | (go_at_call 17; refine MC.out.mono ?_; rintro e w3 ⟨rfl, hb3⟩; have x3 := (hb3.block _ (lt_heap hbx.out)).trans hbx.out; have x0 := cell_of_row w3 w.heap.size 0 _ _ (0, 0) x3; have x1 := cell_of_row w3 w.heap.size 1 _ _ (0, 0) x3; have x2 := cell_of_row w3 w.heap.size 2 _ _ (0, 0) x3; simp only [List.size_toArray, List.getElem?_toArray, List.getElem?_cons_zero, List.getElem?_cons_succ] at x0 x1 x2; replace hb3 := Lib.hid (HB0.out.trans (hb3.mono HB0.out.size)); clear x3)
      | (go_at_call 16; refine (TC.out _ hb3.out).mono ?_; rintro e w4 ⟨rfl, hb4⟩; replace hb4 := Lib.hid (hb3.out.trans (hb4.mono hb3.out.size))))
    go_ret
    exact ⟨by rw [e1.out]; rfl, hb4.out⟩
set_option maxRecDepth 100000 in
theorem never_calls (Ak : Option Addr) (nk ck : Nat) (N : Int × Bool) (w : World) :
    Calls Try.prog 19 #[.agg #[.slice Ak nk ck, .int .i64 N.1, .bool N.2]] w fun e w' => e = .returned (.tuple #[.int .i64 N.1, .bool N.2]) ∧ Below w.heap.size w w' := by
  obtain ⟨N1, N2⟩ := N
  go_enter Try.func19, Try.ntmps19
  go_wp2
  go_quiet (fail)
  go_wp2
  go_ret2
  exact ⟨rfl, pw_below_drewN (below_alloc (Below.refl _ _) _) _⟩
end Go.Proofs.Ytonlbeonblpblaa.All
