/-
  The law CalcheckOrder's walk: it tells true, where its list's clashes rise by their places and are as many of each kind as those of the turned list. (The first half of the walk began as the print of the same function, cut short.)
-/
import Derived.StillTailTactics
import Derived.ChangeKeysEq
import Derived.Test.YtlfkdbfbkgcgnaaPureOrder
import Derived.Test.YtlfkdbfbkgcgnaaAllx6
import Derived.Test.YtlfkdbfbkgcgnaaAllx8
namespace Go.Proofs.Ytlfkdbfbkgcgnaa.All
open Go.RowKit Go.Proofs.YtlfkdbfbkgcgnaaW.PrintWords Go.Proofs.YtlfkdbfbkgcgnaaW.PrintLast Go.Proofs.YtlfkdbfbkgcgnaaW.PrintMore Go.Proofs.Ytlfkdbfbkgcgnaa.Pl
set_option linter.unusedVariables false
set_option linter.unusedSimpArgs false

def erewhilelaw35_CalcheckOrder.T6 : Bool × List (List Nat × List Nat) := (true, [([], []), ([], []), ([], []), ([1, 2], [1, 2]), ([0, 3], [0, 3]), ([], []), ([], []), ([5, 6], [5, 6]), ([4, 7, 4], [4, 7]), ([8, 8, 0, 1, 2, 3, 4, 5, 6, 7, 8], [8])])
def erewhilelaw35_CalcheckOrder.B6 : List Nat := [0, 0, 0, 6, 15, 0, 0, 96, 255, 511]
theorem erewhilelaw35_CalcheckOrder.tab6 : rtab .any (opsOf Try.f8 6) = erewhilelaw35_CalcheckOrder.T6 := by kernel_rfl
theorem erewhilelaw35_CalcheckOrder.bits6 : waitsOk erewhilelaw35_CalcheckOrder.T6.2 erewhilelaw35_CalcheckOrder.B6 = true := by kernel_rfl
/-- The counts of three kinds. -/
def cntV (l : List S33) : Nat → Int := fun i => ((cnt ((i : Int) + 1) (chk l l.length) : Nat) : Int)
def manyA (f g : Nat → Int) (x : Int) : Array Value :=
  if x = 0 then #[.int .i64 0, .int .i64 0, .int .i64 0, .int .i64 0, .int .i64 0, .int .i64 0]
  else if x = 1 then #[.int .i64 (f 0), .int .i64 (f 1), .int .i64 (f 2), .int .i64 0, .int .i64 0, .int .i64 0]
  else #[.int .i64 (f 0), .int .i64 (f 1), .int .i64 (f 2), .int .i64 (g 0), .int .i64 (g 1), .int .i64 (g 2)]
def cntJ (cs : List S30) (w j : Int) : Int := ((cnt w (cs.take j.toNat) : Nat) : Int)
def row0 (cs : List S30) (j : Int) : Array Value := #[.int .i64 (cntJ cs 1 j), .int .i64 (cntJ cs 2 j), .int .i64 (cntJ cs 3 j), .int .i64 0, .int .i64 0, .int .i64 0]
def row1 (f : Nat → Int) (cs : List S30) (j : Int) : Array Value := #[.int .i64 (f 0), .int .i64 (f 1), .int .i64 (f 2), .int .i64 (cntJ cs 1 j), .int .i64 (cntJ cs 2 j), .int .i64 (cntJ cs 3 j)]
def lastA (cs : List S30) (j : Int) : Array Value := if j = 0 then #[.int .i64 (-1), .int .i64 0, .int .i64 0] else #[.int .i64 (rd_T30 cs (j - 1)).f0, .int .i64 (rd_T30 cs (j - 1)).f1, .int .i64 (rd_T30 cs (j - 1)).f2]
def Good (cs : List S30) : Prop := ∀ j : Int, 0 ≤ j → j < (cs.length : Int) → ∃ a b c : Int, lastA cs j = #[.int .i64 a, .int .i64 b, .int .i64 c] ∧ ((rd_T30 cs j).f0 == (rd_T30 cs j).f1) = false ∧ decide ((rd_T30 cs j).f0 < a) = false ∧ (((rd_T30 cs j).f0 == a) = true → decide ((rd_T30 cs j).f1 ≤ b) = false) ∧ ((rd_T30 cs j).f2 = 1 ∨ (rd_T30 cs j).f2 = 2 ∨ (rd_T30 cs j).f2 = 3)
theorem cnt_succ (cs : List S30) (j : Int) (h0 : 0 ≤ j) (h1 : j < (cs.length : Int)) (w : Int) : cntJ cs w (j + 1) = cntJ cs w j + if (rd_T30 cs j).f2 = w then 1 else 0 := by
  obtain ⟨n, rfl⟩ : ∃ n : Nat, j = (n : Int) := ⟨j.toNat, by omega⟩
  have hn : n < cs.length := by omega
  have e1 : ((n : Int) + 1).toNat = n + 1 := by omega
  have e2 : rd_T30 cs (n : Int) = cs[n] := by
    show cs.getD (n : Int).toNat z30 = cs[n]
    rw [Int.toNat_natCast, List.getD_eq_getElem?_getD, List.getElem?_eq_getElem hn]
    rfl
  unfold cntJ cnt
  rw [e1, Int.toNat_natCast, e2, List.take_add_one, List.getElem?_eq_getElem hn, List.countP_append]
  simp only [Option.toList_some, List.countP_cons, List.countP_nil, Nat.zero_add, beq_iff_eq]
  split <;> simp
theorem cnt_range (cs : List S30) (w j : Int) (h : cs.length ≤ 1000) : 0 ≤ cntJ cs w j ∧ cntJ cs w j ≤ 1000 := by
  have h1 : cnt w (cs.take j.toNat) ≤ (cs.take j.toNat).length := List.countP_le_length
  have h2 : (cs.take j.toNat).length ≤ cs.length := by rw [List.length_take]; omega
  unfold cntJ
  omega
theorem cnt_next (cs : List S30) (j : Int) (h0 : 0 ≤ j) (h1 : j < (cs.length : Int)) (hl : cs.length ≤ 1000) (w : Int) (h : (rd_T30 cs j).f2 = w) : IntKind.i64.wrap (cntJ cs w j + 1) = cntJ cs w (j + 1) := by
  have := cnt_range cs w j hl
  rw [cnt_succ cs j h0 h1 w, if_pos h, i64_w]
  unfold wrap64
  omega
theorem cnt_stay (cs : List S30) (j : Int) (h0 : 0 ≤ j) (h1 : j < (cs.length : Int)) (w : Int) (h : (rd_T30 cs j).f2 ≠ w) : cntJ cs w j = cntJ cs w (j + 1) := by
  rw [cnt_succ cs j h0 h1 w, if_neg h, Int.add_zero]
theorem wrap_step (j : Int) (h0 : 0 ≤ j) (h1 : j < 1000000) : IntKind.i64.wrap (j + 1) = j + 1 := by
  rw [i64_w]
  unfold wrap64
  omega
theorem cnt_all (l : List S33) (i : Nat) : cntJ (chk l l.length) ((i : Int) + 1) ((chk l l.length).length : Int) = cntV l i := by
  unfold cntJ cntV
  rw [Int.toNat_natCast, List.take_length]
theorem fin_0 (l : List S33) (g : Nat → Int) : manyA (cntV l) g (0 + 1) = row0 (chk l l.length) ((chk l l.length).length : Int) := by
  have h0 := cnt_all l 0
  have h1 := cnt_all l 1
  have h2 := cnt_all l 2
  unfold manyA row0
  rw [if_neg (by decide), if_pos (by decide), ← h0, ← h1, ← h2]
  rfl
theorem fin_1 (f : Nat → Int) (l : List S33) : manyA f (cntV l) (1 + 1) = row1 f (chk l l.length) ((chk l l.length).length : Int) := by
  have h0 := cnt_all l 0
  have h1 := cnt_all l 1
  have h2 := cnt_all l 2
  unfold manyA row1
  rw [if_neg (by decide), if_neg (by decide), ← h0, ← h1, ← h2]
  rfl
theorem arr_eq (a b c : Int) (w : World) : (Op.equalIn 10000 45 (.agg #[.int .i64 a, .int .i64 b, .int .i64 c]) (.agg #[.int .i64 a, .int .i64 b, .int .i64 c])).run Try.prog w = .ok true w := by
  have hu : Try.prog.underlying 45 = some (.array 3 3) := by kernel_rfl
  have h3 : Try.prog.underlying 3 = some (.int .i64) := by kernel_rfl
  have hc : Try.prog.cellsOf 3 = 1 := by kernel_rfl
  have hp : Try.prog.plainKey 3 = true := by kernel_rfl
  obtain ⟨i, hi⟩ : ∃ i, Try.prog.info? 3 = some i := Option.isSome_iff_exists.1 (show (Try.prog.info? 3).isSome = true by kernel_rfl)
  have e : ∀ x : Int, (Op.equalIn 9999 3 (.int .i64 x) (.int .i64 x)).run Try.prog w = .ok true w := fun x => by
    rw [run_equalIn_int w 9998 3 .i64 .i64 x x h3]
    simp
  have p0 := run_part_plain (P := Try.prog) w hp (xs := #[Value.int .i64 a, .int .i64 b, .int .i64 c]) (off := 0) (v := .int .i64 a) rfl
  have p1 := run_part_plain (P := Try.prog) w hp (xs := #[Value.int .i64 a, .int .i64 b, .int .i64 c]) (off := 1) (v := .int .i64 b) rfl
  have p2 := run_part_plain (P := Try.prog) w hp (xs := #[Value.int .i64 a, .int .i64 b, .int .i64 c]) (off := 2) (v := .int .i64 c) rfl
  rw [run_equalIn_array w 9999 (t := 45) (e := 3) (n := 3) _ _ hu hi, hc]
  have hr : List.range 3 = [0, 1, 2] := rfl
  simp only [hr, Op.eqItems, Sem.run_bind, Nat.mul_one, p0, p1, p2, e, Result.andThen_ok, Bool.not_true, Bool.false_eq_true, if_false, Sem.run_pure]
theorem alloc_new (w : World) (o : Obj) : (w.alloc o).heap[w.heap.size]? = some o := by
  show (w.heap.push o)[w.heap.size]? = some o
  simp
theorem alloc_size (w : World) (o : Obj) : (w.alloc o).heap.size = w.heap.size + 1 := by
  show (w.heap.push o).size = w.heap.size + 1
  simp
theorem alloc_old {w : World} {g : Nat} {x : Obj} (h : w.heap[g]? = some x) (o : Obj) : (w.alloc o).heap[g]? = some x := by
  have hlt := (Array.getElem?_eq_some_iff.1 h).1
  rw [← h]
  show (w.heap.push o)[g]? = _
  simp [Array.getElem?_push, Nat.ne_of_lt hlt]
theorem below_old {w w' : World} {g : Nat} {x : Obj} (h : w.heap[g]? = some x) (hb : Below w.heap.size w w') : w'.heap[g]? = some x := (hb.block g (Array.getElem?_eq_some_iff.1 h).1).trans h
theorem set_old {w : World} {g : Nat} {x : Obj} (h : w.heap[g]? = some x) {p : Addr} (hne : g ≠ p.block) (u : Value) : (w.setCell p u).heap[g]? = some x := (Below.heap_setCell w p u g hne).trans h
set_option maxHeartbeats 8000000 in
set_option maxRecDepth 100000 in
theorem order_calls (k : Nat) (A0 : Option Addr) (c0 : Nat) (l0 : List (S33)) (a1 : Int) (w : World) (hr0 : Kd.C k33 w A0 l0.length l0) (hc0 : l0.length ≤ c0) (A30 : erewhilelaw35_awake.f k = some true)
    (hn0 : 0 < l0.length) (hn1 : l0.length ≤ 30) (ji9 : Int) (hji9 : (Int.tmod (wrap64 (a1)) (l0.length : Int)) = ji9) (hj0 : 0 ≤ ji9) (hj1 : ji9 ≤ (l0.length : Int)) (y143 : List S33) (hy143 : y143 = l0.drop ji9.toNat ++ l0.take ji9.toNat)
    (hct : ∀ i, cntV y143 i = cntV l0 i) (hg0 : Good (chk l0 l0.length)) (hg1 : Good (chk y143 y143.length)) (hk1 : calcheck_Check.f k l0 = some (chk l0 l0.length)) (hk2 : calcheck_Check.f k y143 = some (chk y143 y143.length)) :
    Calls Try.prog 8 #[.slice A0 l0.length c0, .int .u8 a1] w fun e w' => e = .returned (.bool true) ∧ Below w.heap.size w w' := by
  have HR0 := Aside0.mk hr0
  have HC0 := Aside0.mk hc0
  clear hr0 hc0
  have HB := Aside0.mk (Below.refl w.heap.size w)
  have A3 := Aside0.mk A30
  have K1 := Aside0.mk hk1
  have HCT := Aside0.mk hct
  clear hct
  have HLL0 : Aside0 ((chk l0 l0.length).length ≤ 1000) := ⟨by
    have h1 := chk_len l0 l0.length
    have h2 : l0.length * l0.length ≤ 30 * 30 := Nat.mul_le_mul hn1 hn1
    omega⟩
  have HLL1 : Aside0 ((chk y143 y143.length).length ≤ 1000) := ⟨by
    have h0 : y143.length ≤ 30 := by rw [hy143, List.length_append, List.length_drop, List.length_take]; omega
    have h1 := chk_len y143 y143.length
    have h2 : y143.length * y143.length ≤ 30 * 30 := Nat.mul_le_mul h0 h0
    omega⟩
  have HG0 := Aside0.mk hg0
  have HG1 := Aside0.mk hg1
  clear hg0 hg1
  have K2 := Aside0.mk hk2
  clear A30 hk1 hk2
  have c5b0 : ((l0.length : Int) == 0) = false := beq_eq_false_iff_ne.mpr (by omega)
  have c5b1 : ((l0.length : Int) != 0) = true := bne_iff_ne.mpr (by omega)
  have c5b2 : ¬ (l0 = []) := fun h_ => by rw [h_] at hn0; exact absurd hn0 (by decide)
  have c7b0 : decide (30 < (l0.length : Int)) = false := decide_eq_false (by omega)
  have c7b1 : decide (30 < l0.length) = false := decide_eq_false (by omega)
  have c10b0 := eq_true hj0
  have c10b1 : decide (0 ≤ (ji9)) = true := decide_eq_true hj0
  have c11b0 := eq_true hj1
  have c11b1 : decide ((ji9) ≤ (l0.length : Int)) = true := decide_eq_true hj1
  have c13b0 := c10b0
  have c14b0 := c11b0
  have HN0 := Aside0.mk hn0
  have HN1 := Aside0.mk hn1
  have HJ0 := Aside0.mk hj0
  have HJ1 := Aside0.mk hj1
  clear hn0 hn1 hj0 hj1
  obtain ⟨y129, hy129⟩ : ∃ y_ : List (S33), y_ = (([] : List (S33))) := ⟨_, rfl⟩
  have Ny129 := Aside0.mk hy129
  obtain ⟨y132, hy132⟩ : ∃ y_ : List (S33), y_ = (l0.drop ((ji9) : Int).toNat) := ⟨_, rfl⟩
  have Ny132 := Aside0.mk hy132
  obtain ⟨y136, hy136⟩ : ∃ y_ : List (S33), y_ = (y129 ++ y132) := ⟨_, rfl⟩
  have Ny136 := Aside0.mk hy136
  obtain ⟨y139, hy139⟩ : ∃ y_ : List (S33), y_ = (l0.take ((ji9) : Int).toNat) := ⟨_, rfl⟩
  have Ny139 := Aside0.mk hy139
  have Ny143 := Aside0.mk (show y143 = y136 ++ y139 by rw [hy143, hy136, hy129, hy132, hy139, List.nil_append])
  have LMc12 := Aside0.mk (show y129.length + y132.length < 5864062014805 by rw [hy129, hy132, List.length_drop]; have := HN1.out; simp; omega)
  have LMc15 := Aside0.mk (show y136.length + y139.length < 5864062014805 by rw [hy136, hy129, hy132, hy139, List.nil_append, List.length_drop, List.length_take]; have := HN1.out; omega)
  have HY := Aside0.mk hy143
  clear hy129 hy132 hy136 hy139 hy143
  go_enter Try.func8, Try.ntmps8
  try go_wp2_with (first | ((with_reducible refine gate_callee (f := 10) rfl ?_); refine goesL_ (some 13) rfl rfl Try.func10 (by kernel_rfl) rfl #[] rfl (by (try simp only [List.map_toArray, List.map_cons, List.map_nil]); first | done | rfl | (simp only [List.length_drop, List.length_take]; rfl)) ?_; (with_reducible refine (erewhilelaw35_awake.calls k  true _ A3.out).mono ?_); rintro e w16 ⟨rfl, hb⟩; refine ⟨_, rfl, ?_⟩; have n0_ := Aside0.mk (below_step (by repeat (first | (with_reducible first | exact HB.out | apply below_alloc | apply pw_below_drewN | apply below_drew1) | exact HB.out)) hb); clear HB; have HB := n0_; clear n0_; (try clear hb); (try clear hb2); (try clear hk); (try clear hi)))
  have n0_ := Aside0.mk (below_drew1 HB.out)
  clear HB
  have HB := n0_
  clear n0_
  have q18 : ((ji9) : Int) ≤ ((l0.length : Int) : Int) := of_decide_eq_true (by first | (with_reducible assumption) | assumption)
  obtain ⟨i018, hi018, _, hsz18, _⟩ := info_parts info33
  have hroom18 : l0.length ≤ c0 := HC0.out
  have hC18 : Kd.C k33 _ A0 l0.length l0 := HR0.out
  have q018 : (0 : Int) ≤ ((ji9) : Int) := of_decide_eq_true (by first | (with_reducible assumption) | assumption)
  have hcut18 := cut_from (P := Try.prog) 22 33 .i64 Try.underlying22 hi018 3 hsz18 A0 l0.length c0 (ji9) q018 q18
  have hr18 := Kd.C_drop (m := ((ji9) : Int).toNat) (c := c0) hC18 (by omega) hroom18
  obtain ⟨A18, hA18⟩ : ∃ A1, A1 = (if c0 = ((ji9) : Int).toNat then A0 else (A0 : Option Addr).map (·.add (((ji9) : Int).toNat * 3))) := ⟨_, rfl⟩
  obtain ⟨c18, hc18⟩ : ∃ c1, c1 = c0 - ((ji9) : Int).toNat := ⟨_, rfl⟩
  have hy18 : y132.length = l0.length - ((ji9) : Int).toNat := (by rw [Ny132.out, List.length_drop] <;> omega)
  rw [show (l0).drop ((ji9) : Int).toNat = y132 from Ny132.out.symm] at hr18
  replace hr18 : Kd.C k33 _ A18 y132.length y132 := (by rw [hA18]; exact hr18)
  rw [← hy18, ← hA18, ← hc18] at hcut18
  have HR135 := Aside0.mk hr18
  have HC135 := Aside0.mk (show y132.length ≤ c18 from by rw [hy18, hc18]; exact Nat.sub_le_sub_right hroom18 _)
  clear hr18 hC18 hroom18 hi018 hsz18 hc18
  have KY18 := Aside0.mk hy18
  have KA18 := Aside0.mk hA18
  clear hy18 hA18
  replace q18 := eq_true q18
  have q19 : ((ji9) : Int) ≤ ((l0.length : Int) : Int) := of_decide_eq_true (by first | (with_reducible assumption) | assumption)
  obtain ⟨i019, hi019, _, hsz19, _⟩ := info_parts info33
  have hroom19 : l0.length ≤ c0 := HC0.out
  have hC19 : Kd.C k33 _ A0 l0.length l0 := HR0.out
  have hcut19 := cut_to (P := Try.prog) 22 33 .i64 Try.underlying22 hi019 A0 l0.length c0 (ji9) (of_decide_eq_true (by first | (with_reducible assumption) | assumption)) q19 hroom19
  have hr19 := Kd.C_take (m := ((ji9) : Int).toNat) hC19 (by omega)
  have hy19 : y139.length = ((ji9) : Int).toNat := (by rw [Ny139.out, List.length_take]; omega)
  rw [← Ny139.out] at hr19
  rw [← hy19] at hcut19
  have HR142 := Aside0.mk hr19
  have HC142 := Aside0.mk (show y139.length ≤ c0 from by omega)
  clear hr19 hC19 hroom19 hi019 hsz19
  have KY19 := Aside0.mk hy19
  clear hy19
  replace q19 := eq_true q19
  refine start_ (n := 10) (S := fun w' => True) (ds := []) #[false, false, false, false, false, false, false, false, false, false] (by kernel_rfl) rfl rfl trivial (fun hHeld => ?_); refine with_tabW erewhilelaw35_CalcheckOrder.tab6 erewhilelaw35_CalcheckOrder.bits6 (fun HT_ HW_ => ?_)
  generalize w16.drew = w17 at HB HR135 HR142 hHeld ⊢
  refine pure_ (i := 1) (N := some 29) (v := ?_) (a' := ?_) #[false, true, false, false, false, false, false, false, false, false] rfl rfl (any_of HT_.out (by kernel_rfl)) (fun _ _ _ h => h) (Or.inl ⟨by rfl, ?_⟩) ?_ ?_
  rotate_left
  · intro w'
    go_simp
    with_reducible rfl
  rotate_left
  · simp only [Act.put, List.setIfInBounds_toArray, List.set_cons_zero, List.set_cons_succ, i64_w, i32_w]
    rfl
  refine pure_ (i := 2) (N := some 30) (v := ?_) (a' := ?_) #[false, true, true, false, false, false, false, false, false, false] rfl rfl (any_of HT_.out (by kernel_rfl)) (fun _ _ _ h => h) (Or.inl ⟨by rfl, ?_⟩) ?_ ?_
  rotate_left
  · intro w'
    go_simp
    with_reducible rfl
  rotate_left
  · simp only [Act.put, List.setIfInBounds_toArray, List.set_cons_zero, List.set_cons_succ, i64_w, i32_w]
    rfl
  refine pure_ (i := 3) (N := some 31) (v := ?_) (a' := ?_) #[false, true, true, true, false, false, false, false, false, false] rfl rfl (any_of HT_.out (by kernel_rfl)) (fun _ _ _ h => h) (Or.inl ⟨by rfl, ?_⟩) ?_ ?_
  rotate_left
  · intro w'
    go_simp
    with_reducible rfl
  rotate_left
  · simp only [Act.put, List.setIfInBounds_toArray, List.set_cons_zero, List.set_cons_succ, i64_w, i32_w]
    rfl
  refine pure_ (i := 5) (N := some 33) (v := ?_) (a' := ?_) #[false, true, true, true, false, true, false, false, false, false] rfl rfl (any_of HT_.out (by kernel_rfl)) (fun _ _ _ h => h) (Or.inl ⟨by rfl, ?_⟩) ?_ ?_
  rotate_left
  · intro w'
    go_simp
    with_reducible rfl
  rotate_left
  · simp only [Act.put, List.setIfInBounds_toArray, List.set_cons_zero, List.set_cons_succ, i64_w, i32_w]
    rfl
  refine pure_ (i := 6) (N := some 34) (v := ?_) (a' := ?_) #[false, true, true, true, false, true, true, false, false, false] rfl rfl (any_of HT_.out (by kernel_rfl)) (fun _ _ _ h => h) (Or.inl ⟨by rfl, ?_⟩) ?_ ?_
  rotate_left
  · intro w'
    go_simp
    with_reducible rfl
  rotate_left
  · simp only [Act.put, List.setIfInBounds_toArray, List.set_cons_zero, List.set_cons_succ, i64_w, i32_w]
    rfl
  refine pure_ (i := 7) (N := some 35) (v := ?_) (a' := ?_) #[false, true, true, true, false, true, true, true, false, false] rfl rfl (any_of HT_.out (by kernel_rfl)) (fun _ _ _ h => h) (Or.inl ⟨by rfl, ?_⟩) ?_ ?_
  rotate_left
  · intro w'
    go_simp
    with_reducible rfl
  rotate_left
  · simp only [Act.put, List.setIfInBounds_toArray, List.set_cons_zero, List.set_cons_succ, i64_w, i32_w]
    rfl
  refine one_ (i := 0) (N := some 28) #[true, true, true, true, false, true, true, true, false, false] rfl rfl (one_of HT_.out (by kernel_rfl)) (by decide) (fun K hK => ?_)
  refine Kd.R_lit_step k33 _ 33 ?hg (N := 28) ?hd (xs := ([] : List (S33))) (inner := []) (ok := fun _ => True) (okp := fun _ => True) ?hr ?hp (fun _ hk => hk) trivial (Below.refl _ _) (Nat.le_refl _) (by simp) ?_; (case hd => rfl); (case hg => rfl); (case hr => first | (go_simp; done) | (go_simp; rfl)); (case hp => exact (Reps.none _ _))
  intro v130 w20 ho21 hb hg_ hnew_
  clear hg_ hnew_
  (first | rw [← Ny129.out] at ho21 | (simp only [Int.reduceToNat] at ho21; rw [← Ny129.out] at ho21))
  have n0_ := Aside0.mk (Kd.R_lower ho21 (below_size (by repeat (first | (with_reducible first | exact HB.out | apply below_alloc | apply pw_below_drewN | apply below_drew1) | exact HB.out))))
  have n1_ := Aside0.mk (below_step (by repeat (first | (with_reducible first | exact HB.out | apply below_alloc | apply pw_below_drewN | apply below_drew1) | exact HB.out)) hb)
  clear HB
  have HO131 := n0_
  have HB := n1_
  clear n0_ n1_
  clear hb ho21
  refine hK.out _ _ trivial (fun hHeld => ?_)
  clear hK K
  refine norm_ (a' := ?_) ?_ ?_
  rotate_left
  · show Act.put _ (some 28) _ = _
    simp only [Act.put, List.setIfInBounds_toArray, List.set_cons_zero, List.set_cons_succ, i64_w, i32_w]
    rfl
  refine one_ (i := 4) (N := some 32) #[true, true, true, true, true, true, true, true, false, false] rfl rfl (one_of HT_.out (by kernel_rfl)) (by decide) (fun K hK => ?_)
  refine Kd.R_append_rows_step k33 (w0 := w) w.heap.size (by rfl) (.tmp 28) (.tmp 31) 22 33 (.agg #[(.int .i64 0), (.int .i64 0), (.int .i64 0)]) 24 rfl Try.underlying22 info33 rfl (by decide) (by omega) v130 y129 y132 _ _ _ (fun _ => True) (fun _ => False) rfl rfl ?aO ?aR (fun _ _ h => h) (fun _ h => h.elim) ?aF ?aB ?aS ?aL ?_
  (case aR => repeat (first | exact (Kd.C_below HR135.out HB.out) | (with_reducible refine Kd.C_alloc ?_ _) | (with_reducible refine Kd.C_drewN ?_ _) | (with_reducible refine Kd.C_drew ?_)))
  (case aB => exact (by repeat (first | (with_reducible first | exact HB.out | apply below_alloc | apply pw_below_drewN | apply below_drew1) | exact HB.out)))
  (case aF => exact (fun _ _ => trivial))
  (case aO => exact (by (with_reducible repeat (first | apply Kd.R_alloc | apply Kd.R_drewN | apply Kd.R_drew)); exact HO131.out))
  (case aS => exact (below_size (by repeat (first | (with_reducible first | exact HB.out | apply below_alloc | apply pw_below_drewN | apply below_drew1) | exact HB.out))))
  (case aL => have := LMc12.out; omega)
  intro v137 w22 ho hb hg hat
  rw [← Ny136.out] at ho
  have n0_ := Aside0.mk (hb)
  have n1_ := Aside0.mk (ho)
  clear HB
  clear HO131
  have HB := n0_
  have HO138 := n1_
  clear n0_ n1_
  clear ho hb hg hat
  refine hK.out _ _ trivial (fun hHeld => ?_)
  clear hK K
  refine norm_ (a' := ?_) ?_ ?_
  rotate_left
  · show Act.put _ (some 32) _ = _
    simp only [Act.put, List.setIfInBounds_toArray, List.set_cons_zero, List.set_cons_succ, i64_w, i32_w]
    rfl
  refine one_ (i := 8) (N := some 36) #[true, true, true, true, true, true, true, true, true, false] rfl rfl (one_of HT_.out (by kernel_rfl)) (by decide) (fun K hK => ?_)
  refine Kd.R_append_rows_step k33 (w0 := w) w.heap.size (by rfl) (.tmp 32) (.tmp 35) 22 33 (.agg #[(.int .i64 0), (.int .i64 0), (.int .i64 0)]) 24 rfl Try.underlying22 info33 rfl (by decide) (by omega) v137 y136 y139 _ _ _ (fun _ => True) (fun _ => False) rfl rfl ?aO ?aR (fun _ _ h => h) (fun _ h => h.elim) ?aF ?aB ?aS ?aL ?_
  (case aR => repeat (first | exact (Kd.C_below HR142.out HB.out) | (with_reducible refine Kd.C_alloc ?_ _) | (with_reducible refine Kd.C_drewN ?_ _) | (with_reducible refine Kd.C_drew ?_)))
  (case aB => exact (by repeat (first | (with_reducible first | exact HB.out | apply below_alloc | apply pw_below_drewN | apply below_drew1) | exact HB.out)))
  (case aF => exact (fun _ _ => trivial))
  (case aO => exact (by (with_reducible repeat (first | apply Kd.R_alloc | apply Kd.R_drewN | apply Kd.R_drew)); exact HO138.out))
  (case aS => exact (below_size (by repeat (first | (with_reducible first | exact HB.out | apply below_alloc | apply pw_below_drewN | apply below_drew1) | exact HB.out))))
  (case aL => have := LMc15.out; omega)
  intro v144 w23 ho hb hg hat
  rw [← Ny143.out] at ho
  have n0_ := Aside0.mk (hb)
  have n1_ := Aside0.mk (ho)
  clear HB
  clear HO138
  have HB := n0_
  have HO145 := n1_
  clear n0_ n1_
  clear ho hb hg hat
  refine hK.out _ _ trivial (fun hHeld => ?_)
  clear hK K
  refine norm_ (a' := ?_) ?_ ?_
  rotate_left
  · show Act.put _ (some 36) _ = _
    simp only [Act.put, List.setIfInBounds_toArray, List.set_cons_zero, List.set_cons_succ, i64_w, i32_w]
    rfl
  refine pure_ (i := 9) (N := some 6) (v := ?_) (a' := ?_) #[true, true, true, true, true, true, true, true, true, true] rfl rfl (any_of HT_.out (by kernel_rfl)) (fun _ _ _ h => h) (Or.inl ⟨by rfl, ?_⟩) ?_ ?_
  rotate_left
  · intro w'
    go_simp
    with_reducible rfl
  rotate_left
  · simp only [Act.put, List.setIfInBounds_toArray, List.set_cons_zero, List.set_cons_succ, i64_w, i32_w]
    rfl
  refine done_ (done_of HT_.out (by kernel_rfl)) ?_
  obtain ⟨Ao24, co24, eo24⟩ := Kd.R_slice HO145.out
  subst eo24
  have hbm : w.heap.size ≤ w23.heap.size := below_size HB.out
  obtain ⟨bm, hbmn⟩ : ∃ b : Nat, w23.heap.size = b := ⟨_, rfl⟩
  go_wp2
  go_loopw [41] (fun v41 wr => ∃ x : Int, v41 = .int .i64 x ∧ Aside0 (0 ≤ x ∧ x ≤ 2) ∧ Aside0 (Below w.heap.size w wr) ∧ Aside0 (wr.heap[bm]? = some (.cells (manyA (cntV l0) (cntV y143) x) 46)) ∧ Aside0 (wr.heap[bm + 1]? = some (.cells #[Value.slice A0 l0.length c0, Value.slice Ao24 y143.length co24] 22)) ∧ Aside0 (Kd.R k33 33 wr w.heap.size (fun _ => True) (.slice Ao24 y143.length co24) y143)) (fun v41 _ => (2 - intOf v41).toNat)
  case atStart =>
    refine ⟨0, rfl, ⟨by omega, by omega⟩, ⟨by repeat (first | (with_reducible first | exact HB.out | apply below_alloc) | exact HB.out)⟩, ⟨?_⟩, ⟨?_⟩, ⟨Kd.R_alloc (Kd.R_alloc HO145.out _) _⟩⟩
    · rw [← hbmn]
      exact alloc_old (alloc_new _ _) _
    · rw [← hbmn, ← alloc_size w23 (Obj.cells #[Value.int IntKind.i64 0, Value.int IntKind.i64 0, Value.int IntKind.i64 0, Value.int IntKind.i64 0, Value.int IntKind.i64 0, Value.int IntKind.i64 0] 46)]
      exact alloc_new _ _
  case round =>
    obtain ⟨x, rfl, HX, HB, HM, HS, HO⟩ := hrel
    by_cases hx0 : x = 0
    · subst hx0
      have hs0 : wr.cell? ⟨bm + 1, 0, none⟩ = some (.slice A0 l0.length c0) := (blk_cell HS.out 0).trans rfl
      obtain ⟨bl, hbl⟩ : ∃ b : Nat, wr.heap.size = b := ⟨_, rfl⟩
      have HBL := Aside0.mk hbl
      have HGW : Aside0 (w.heap.size ≤ bl) := ⟨by rw [← hbl]; exact below_size HB.out⟩
      go_wp2_with (first | (go_at_call 11; (with_reducible refine (calcheck_Check.calls k _ _ l0 (chk l0 l0.length) _ ?side1 ?side2 K1.out).mono ?_); (case side1 => exact Kd.C_below HR0.out (below_alloc HB.out _)); (case side2 => exact HC0.out); rintro e w2 ⟨v2, rfl, ho0, hb⟩; have n0_ := Aside0.mk (below_old (alloc_old HM.out _) hb); have n1_ := Aside0.mk (below_old (alloc_old HS.out _) hb); have n2_ := Aside0.mk (Kd.R_below (Kd.R_alloc HO.out _) hb); have n3_ := Aside0.mk (below_step (by repeat (first | (with_reducible first | exact HB.out | apply below_alloc | apply pw_below_drewN | apply below_drew1) | exact HB.out)) hb); have n4_ := Aside0.mk (below_old (alloc_new _ _) hb); have n5_ := Aside0.mk (Kd.R_lower (Kd.R_mono (Kd.R_newB ho0 (alloc_new _ _)) (fun k_ hk_ => hk_.2)) (below_size (by repeat (first | (with_reducible first | exact HB.out | apply below_alloc | apply pw_below_drewN | apply below_drew1) | exact HB.out)))); clear HM HS HO HB hs0; have HM := n0_; have HS := n1_; have HO := n2_; have HB := n3_; have HL := n4_; have HV := n5_; clear n0_ n1_ n2_ n3_ n4_ n5_ hb ho0; obtain ⟨Ao2, co2, eo2⟩ := Kd.R_slice HV.out; subst eo2))
      rw [hbl] at HL HV
      have HGE : Aside0 (w.heap.size ≤ bl) := HGW
      have HGM : Aside0 (w.heap.size ≤ bm) := ⟨by rw [← hbmn]; exact hbm⟩
      have HLN : Aside0 (((chk l0 l0.length)).length ≤ 1000) := HLL0
      have GC : Aside0 (Good (chk l0 l0.length)) := HG0
      obtain ⟨cs, hcs⟩ : ∃ l_, (chk l0 l0.length) = l_ := ⟨_, rfl⟩
      rw [hcs] at HV GC HLN
      have HCS := Aside0.mk hcs
      have hu30 := Try.underlying30
      simp only [hcs]
      clear hcs
      have HN := Aside0.mk (show (bm : Nat) ≠ bl from blk_ne HM.out HL.out (by decide))
      have HN2 := Aside0.mk (show (bm + 1 : Nat) ≠ bl from blk_ne HS.out HL.out (by decide))
      go_loopw [50] (fun v50 wq => ∃ j : Int, v50 = .int .i64 j ∧ Aside0 (0 ≤ j ∧ j ≤ (cs.length : Int)) ∧ Aside0 (Below w.heap.size w wq) ∧ Aside0 (wq.heap[bm]? = some (.cells (row0 cs j) 46)) ∧ Aside0 (wq.heap[bm + 1]? = some (.cells #[Value.slice A0 l0.length c0, Value.slice Ao24 y143.length co24] 22)) ∧ Aside0 (wq.heap[bl]? = some (.cells (lastA cs j) 30)) ∧ Aside0 (Kd.R k33 33 wq w.heap.size (fun _ => True) (.slice Ao24 y143.length co24) y143) ∧ Aside0 (Kd.R k30 30 wq w.heap.size (fun k_ => k_ ≠ bl) (.slice Ao2 cs.length co2) cs)) (fun v50 _ => ((cs.length : Int) - intOf v50).toNat)
      case atStart => exact ⟨0, rfl, ⟨by omega, by omega⟩, HB, HM, HS, HL, HO, HV⟩
      case round =>
        clear HB HM HS HO HL HV
        obtain ⟨j, rfl, HJ, HB, HM, HS, HL, HO, HV⟩ := hrel
        by_cases hj : j < (cs.length : Int)
        · obtain ⟨a, b, c, g1, g2, g3, g4, g5⟩ := GC.out j HJ.out.1 hj
          rw [g1] at HL
          have qj : decide (j < (cs.length : Int)) = true := decide_eq_true hj
          have pj := HJ.out.1
          obtain ⟨ad, e_, hx0, hx1, hx2⟩ := at_T30 (Kd.R_reads' HV.out).2.2 j pj hj
          cases e_
          have HJJ := Aside0.mk hj
          have G4 := Aside0.mk g4
          have G5 := Aside0.mk g5
          clear g4 g5 g1
          replace hj := eq_true hj
          replace pj := eq_true pj
          have hl0 := fun (o : Obj) => (blk_cell (alloc_old HL.out o) 0).trans (show _ = some (Value.int .i64 a) from rfl)
          have hl1 := fun (o : Obj) => (blk_cell (alloc_old HL.out o) 1).trans (show _ = some (Value.int .i64 b) from rfl)
          have hl2 := fun (o : Obj) => (blk_cell (alloc_old HL.out o) 2).trans (show _ = some (Value.int .i64 c) from rfl)
          have hf0 := fun (o : Obj) => blk_frozen (alloc_old HL.out o) 0
          have hf1 := fun (o : Obj) => blk_frozen (alloc_old HL.out o) 1
          have hf2 := fun (o : Obj) => blk_frozen (alloc_old HL.out o) 2
          have hg1 : decide (1 ≤ (rd_T30 cs j).f2) = true := decide_eq_true (by rcases G5.out with h | h | h <;> omega)
          have hg2 : decide ((rd_T30 cs j).f2 < 1) = false := decide_eq_false (by rcases G5.out with h | h | h <;> omega)
          have hg3 : decide (3 < (rd_T30 cs j).f2) = false := decide_eq_false (by rcases G5.out with h | h | h <;> omega)
          obtain ⟨q0, hq0⟩ : ∃ q_, ((rd_T30 cs j).f0 == a) = q_ := ⟨_, rfl⟩
          rw [hq0] at G4
          cases q0 with
          | false =>
            go_wp2
            have HL1 := blk_put (blk_put (blk_put (alloc_old HL.out (Obj.cells #[(Value.int .i64 (rd_T30 cs j).f0), (Value.int .i64 (rd_T30 cs j).f1), (Value.int .i64 (rd_T30 cs j).f2)] 30)) 0 (Value.int .i64 (rd_T30 cs j).f0) rfl) 1 (Value.int .i64 (rd_T30 cs j).f1) rfl) 2 (Value.int .i64 (rd_T30 cs j).f2) rfl
            have HM1 := set_old (p := ⟨bl, 2, none⟩) (set_old (p := ⟨bl, 1, none⟩) (set_old (p := ⟨bl, 0, none⟩) (alloc_old HM.out (Obj.cells #[(Value.int .i64 (rd_T30 cs j).f0), (Value.int .i64 (rd_T30 cs j).f1), (Value.int .i64 (rd_T30 cs j).f2)] 30)) HN.out (Value.int .i64 (rd_T30 cs j).f0)) HN.out (Value.int .i64 (rd_T30 cs j).f1)) HN.out (Value.int .i64 (rd_T30 cs j).f2)
            have HS1 := set_old (p := ⟨bl, 2, none⟩) (set_old (p := ⟨bl, 1, none⟩) (set_old (p := ⟨bl, 0, none⟩) (alloc_old HS.out (Obj.cells #[(Value.int .i64 (rd_T30 cs j).f0), (Value.int .i64 (rd_T30 cs j).f1), (Value.int .i64 (rd_T30 cs j).f2)] 30)) HN2.out (Value.int .i64 (rd_T30 cs j).f0)) HN2.out (Value.int .i64 (rd_T30 cs j).f1)) HN2.out (Value.int .i64 (rd_T30 cs j).f2)
            have HN3 : (wr.heap.size : Nat) ≠ bl := fun e_ => by have := (Array.getElem?_eq_some_iff.1 HL.out).1; omega
            have HN4 : (wr.heap.size : Nat) ≠ bm := fun e_ => by have := (Array.getElem?_eq_some_iff.1 HM.out).1; omega
            have HX1 := set_old (p := ⟨bl, 2, none⟩) (set_old (p := ⟨bl, 1, none⟩) (set_old (p := ⟨bl, 0, none⟩) (alloc_new wr (Obj.cells #[(Value.int .i64 (rd_T30 cs j).f0), (Value.int .i64 (rd_T30 cs j).f1), (Value.int .i64 (rd_T30 cs j).f2)] 30)) HN3 (Value.int .i64 (rd_T30 cs j).f0)) HN3 (Value.int .i64 (rd_T30 cs j).f1)) HN3 (Value.int .i64 (rd_T30 cs j).f2)
            have HB1 := below_set (j := 2) (v := (Value.int .i64 (rd_T30 cs j).f2)) (below_set (j := 1) (v := (Value.int .i64 (rd_T30 cs j).f1)) (below_set (j := 0) (v := (Value.int .i64 (rd_T30 cs j).f0)) (below_alloc HB.out (Obj.cells #[(Value.int .i64 (rd_T30 cs j).f0), (Value.int .i64 (rd_T30 cs j).f1), (Value.int .i64 (rd_T30 cs j).f2)] 30)) HGE.out) HGE.out) HGE.out
            have HO0 := Kd.R_far1 HO.out rfl (Kd.R_ne HO.out HL.out (by decide))
            have HO1 := Kd.R_mono (Kd.R_far (p := ⟨bl, 2, none⟩) (Kd.R_far (p := ⟨bl, 1, none⟩) (Kd.R_far (p := ⟨bl, 0, none⟩) (Kd.R_alloc HO0 (Obj.cells #[(Value.int .i64 (rd_T30 cs j).f0), (Value.int .i64 (rd_T30 cs j).f1), (Value.int .i64 (rd_T30 cs j).f2)] 30)) (fun _ hk => hk.2) (Value.int .i64 (rd_T30 cs j).f0)) (fun _ hk => hk.2) (Value.int .i64 (rd_T30 cs j).f1)) (fun _ hk => hk.2) (Value.int .i64 (rd_T30 cs j).f2)) (fun _ _ => trivial)
            have HV1 := Kd.R_far (p := ⟨bl, 2, none⟩) (Kd.R_far (p := ⟨bl, 1, none⟩) (Kd.R_far (p := ⟨bl, 0, none⟩) (Kd.R_alloc HV.out (Obj.cells #[(Value.int .i64 (rd_T30 cs j).f0), (Value.int .i64 (rd_T30 cs j).f1), (Value.int .i64 (rd_T30 cs j).f2)] 30)) (fun _ hk => hk) (Value.int .i64 (rd_T30 cs j).f0)) (fun _ hk => hk) (Value.int .i64 (rd_T30 cs j).f1)) (fun _ hk => hk) (Value.int .i64 (rd_T30 cs j).f2)
            obtain ⟨W, hW⟩ : ∃ W_, ((((wr.alloc (Obj.cells #[(Value.int .i64 (rd_T30 cs j).f0), (Value.int .i64 (rd_T30 cs j).f1), (Value.int .i64 (rd_T30 cs j).f2)] 30)).setCell ⟨bl, 0, none⟩ (Value.int .i64 (rd_T30 cs j).f0)).setCell ⟨bl, 1, none⟩ (Value.int .i64 (rd_T30 cs j).f1)).setCell ⟨bl, 2, none⟩ (Value.int .i64 (rd_T30 cs j).f2)) = W_ := ⟨_, rfl⟩
            rw [hW] at HL1 HM1 HS1 HX1 HB1 HO1 HV1
            rw [hW]
            clear hW HL HM HS HB HO HV HO0 hl0 hl1 hl2 hf0 hf1 hf2 hx0 hx1 hx2
            have hc2 : W.cell? ⟨wr.heap.size, 2, none⟩ = some (Value.int .i64 (rd_T30 cs j).f2) := (blk_cell HX1 2).trans rfl
            have hm0 : W.cell? ⟨bm, 0, none⟩ = some (.int .i64 (cntJ cs 1 j)) := (blk_cell HM1 0).trans rfl
            have hm1 : W.cell? ⟨bm, 1, none⟩ = some (.int .i64 (cntJ cs 2 j)) := (blk_cell HM1 1).trans rfl
            have hm2 : W.cell? ⟨bm, 2, none⟩ = some (.int .i64 (cntJ cs 3 j)) := (blk_cell HM1 2).trans rfl
            have hfr := blk_frozen HM1
            have HL2 := Aside0.mk HL1
            have HM2 := Aside0.mk HM1
            have HS2 := Aside0.mk HS1
            have HB2 := Aside0.mk HB1
            have HO2 := Aside0.mk HO1
            have HV2 := Aside0.mk HV1
            clear HL1 HM1 HS1 HB1 HO1 HV1 HX1
            have hw1 := wrap_step j HJ.out.1 (by have := HJJ.out; have := HLN.out; omega)
            rcases G5.out with h2 | h2 | h2
            · have hsub : IntKind.i64.wrap ((rd_T30 cs j).f2 - 1) = 0 := by rw [h2]; rfl
              have hsum := cnt_next cs j HJ.out.1 HJJ.out HLN.out 1 h2
              have H2 := Aside0.mk h2
              clear h2
              go_still_tail 10, (by kernel_rfl)
              change wpList _ _ _ _ _ W.drew
              obtain ⟨W2, hW2⟩ : ∃ W_, W.drew = W_ := ⟨_, rfl⟩
              have HL3 := @id (W.drew.heap[bl]? = _) HL2.out
              have HM3 := @id (W.drew.heap[bm]? = _) HM2.out
              have HS3 := @id (W.drew.heap[bm + 1]? = _) HS2.out
              have HB3 := below_drew1 HB2.out
              have HO3 := Kd.R_drew HO2.out
              have HV3 := Kd.R_drew HV2.out
              rw [hW2] at HL3 HM3 HS3 HB3 HO3 HV3
              rw [hW2]
              clear hW2 hm0 hm1 hm2 hc2 hfr
              have hfr := blk_frozen HM3
              have hcell : W2.cell? ⟨bm, 0, none⟩ = some (.int .i64 (cntJ cs 1 j)) := (blk_cell HM3 0).trans rfl
              have HL4 := Aside0.mk HL3
              have HM4 := Aside0.mk HM3
              have HS4 := Aside0.mk HS3
              have HB4 := Aside0.mk HB3
              have HO4 := Aside0.mk HO3
              have HV4 := Aside0.mk HV3
              clear HL3 HM3 HS3 HB3 HO3 HV3
              go_wp2
              go_roundw
              case rel =>
                refine ⟨j + 1, by first | rfl | (rw [hw1]) | (simp [hw1]), ⟨by have := HJ.out; omega, by have := HJJ.out; omega⟩, ⟨below_set HB4.out HGM.out⟩, ⟨blk_put HM4.out 0 _ ?_⟩, ⟨set_old HS4.out (by show bm + 1 ≠ bm; omega) _⟩, ⟨?_⟩, ⟨?_⟩, ⟨?_⟩⟩
                · unfold row0
                  rw [cnt_stay cs j HJ.out.1 HJJ.out 2 (by rw [H2.out]; decide), cnt_stay cs j HJ.out.1 HJJ.out 3 (by rw [H2.out]; decide)]
                  rfl
                · unfold lastA
                  rw [if_neg (by have := HJ.out.1; omega), Int.add_sub_cancel]
                  exact set_old HL4.out (Ne.symm HN.out) _
                · exact Kd.R_mono (Kd.R_far (p := ⟨bm, 0, none⟩) (Kd.R_far1 HO4.out rfl (Kd.R_ne HO4.out HM4.out (by decide))) (fun _ hk => hk.2) _) (fun _ _ => trivial)
                · exact Kd.R_mono (Kd.R_far (p := ⟨bm, 0, none⟩) (Kd.R_far1 HV4.out rfl (Kd.R_ne HV4.out HM4.out (by decide))) (fun _ hk => hk.2) _) (fun _ hk => hk.1)
              case measure =>
                have h3 := HJJ.out
                have h4 := HJ.out
                simp [intOf, hw1]
                omega
            · have hsub : IntKind.i64.wrap ((rd_T30 cs j).f2 - 1) = 1 := by rw [h2]; rfl
              have hsum := cnt_next cs j HJ.out.1 HJJ.out HLN.out 2 h2
              have H2 := Aside0.mk h2
              clear h2
              go_still_tail 10, (by kernel_rfl)
              change wpList _ _ _ _ _ W.drew
              obtain ⟨W2, hW2⟩ : ∃ W_, W.drew = W_ := ⟨_, rfl⟩
              have HL3 := @id (W.drew.heap[bl]? = _) HL2.out
              have HM3 := @id (W.drew.heap[bm]? = _) HM2.out
              have HS3 := @id (W.drew.heap[bm + 1]? = _) HS2.out
              have HB3 := below_drew1 HB2.out
              have HO3 := Kd.R_drew HO2.out
              have HV3 := Kd.R_drew HV2.out
              rw [hW2] at HL3 HM3 HS3 HB3 HO3 HV3
              rw [hW2]
              clear hW2 hm0 hm1 hm2 hc2 hfr
              have hfr := blk_frozen HM3
              have hcell : W2.cell? ⟨bm, 1, none⟩ = some (.int .i64 (cntJ cs 2 j)) := (blk_cell HM3 1).trans rfl
              have HL4 := Aside0.mk HL3
              have HM4 := Aside0.mk HM3
              have HS4 := Aside0.mk HS3
              have HB4 := Aside0.mk HB3
              have HO4 := Aside0.mk HO3
              have HV4 := Aside0.mk HV3
              clear HL3 HM3 HS3 HB3 HO3 HV3
              go_wp2
              go_roundw
              case rel =>
                refine ⟨j + 1, by first | rfl | (rw [hw1]) | (simp [hw1]), ⟨by have := HJ.out; omega, by have := HJJ.out; omega⟩, ⟨below_set HB4.out HGM.out⟩, ⟨blk_put HM4.out 1 _ ?_⟩, ⟨set_old HS4.out (by show bm + 1 ≠ bm; omega) _⟩, ⟨?_⟩, ⟨?_⟩, ⟨?_⟩⟩
                · unfold row0
                  rw [cnt_stay cs j HJ.out.1 HJJ.out 1 (by rw [H2.out]; decide), cnt_stay cs j HJ.out.1 HJJ.out 3 (by rw [H2.out]; decide)]
                  rfl
                · unfold lastA
                  rw [if_neg (by have := HJ.out.1; omega), Int.add_sub_cancel]
                  exact set_old HL4.out (Ne.symm HN.out) _
                · exact Kd.R_mono (Kd.R_far (p := ⟨bm, 1, none⟩) (Kd.R_far1 HO4.out rfl (Kd.R_ne HO4.out HM4.out (by decide))) (fun _ hk => hk.2) _) (fun _ _ => trivial)
                · exact Kd.R_mono (Kd.R_far (p := ⟨bm, 1, none⟩) (Kd.R_far1 HV4.out rfl (Kd.R_ne HV4.out HM4.out (by decide))) (fun _ hk => hk.2) _) (fun _ hk => hk.1)
              case measure =>
                have h3 := HJJ.out
                have h4 := HJ.out
                simp [intOf, hw1]
                omega
            · have hsub : IntKind.i64.wrap ((rd_T30 cs j).f2 - 1) = 2 := by rw [h2]; rfl
              have hsum := cnt_next cs j HJ.out.1 HJJ.out HLN.out 3 h2
              have H2 := Aside0.mk h2
              clear h2
              go_still_tail 10, (by kernel_rfl)
              change wpList _ _ _ _ _ W.drew
              obtain ⟨W2, hW2⟩ : ∃ W_, W.drew = W_ := ⟨_, rfl⟩
              have HL3 := @id (W.drew.heap[bl]? = _) HL2.out
              have HM3 := @id (W.drew.heap[bm]? = _) HM2.out
              have HS3 := @id (W.drew.heap[bm + 1]? = _) HS2.out
              have HB3 := below_drew1 HB2.out
              have HO3 := Kd.R_drew HO2.out
              have HV3 := Kd.R_drew HV2.out
              rw [hW2] at HL3 HM3 HS3 HB3 HO3 HV3
              rw [hW2]
              clear hW2 hm0 hm1 hm2 hc2 hfr
              have hfr := blk_frozen HM3
              have hcell : W2.cell? ⟨bm, 2, none⟩ = some (.int .i64 (cntJ cs 3 j)) := (blk_cell HM3 2).trans rfl
              have HL4 := Aside0.mk HL3
              have HM4 := Aside0.mk HM3
              have HS4 := Aside0.mk HS3
              have HB4 := Aside0.mk HB3
              have HO4 := Aside0.mk HO3
              have HV4 := Aside0.mk HV3
              clear HL3 HM3 HS3 HB3 HO3 HV3
              go_wp2
              go_roundw
              case rel =>
                refine ⟨j + 1, by first | rfl | (rw [hw1]) | (simp [hw1]), ⟨by have := HJ.out; omega, by have := HJJ.out; omega⟩, ⟨below_set HB4.out HGM.out⟩, ⟨blk_put HM4.out 2 _ ?_⟩, ⟨set_old HS4.out (by show bm + 1 ≠ bm; omega) _⟩, ⟨?_⟩, ⟨?_⟩, ⟨?_⟩⟩
                · unfold row0
                  rw [cnt_stay cs j HJ.out.1 HJJ.out 1 (by rw [H2.out]; decide), cnt_stay cs j HJ.out.1 HJJ.out 2 (by rw [H2.out]; decide)]
                  rfl
                · unfold lastA
                  rw [if_neg (by have := HJ.out.1; omega), Int.add_sub_cancel]
                  exact set_old HL4.out (Ne.symm HN.out) _
                · exact Kd.R_mono (Kd.R_far (p := ⟨bm, 2, none⟩) (Kd.R_far1 HO4.out rfl (Kd.R_ne HO4.out HM4.out (by decide))) (fun _ hk => hk.2) _) (fun _ _ => trivial)
                · exact Kd.R_mono (Kd.R_far (p := ⟨bm, 2, none⟩) (Kd.R_far1 HV4.out rfl (Kd.R_ne HV4.out HM4.out (by decide))) (fun _ hk => hk.2) _) (fun _ hk => hk.1)
              case measure =>
                have h3 := HJJ.out
                have h4 := HJ.out
                simp [intOf, hw1]
                omega
          | true =>
            have hg4 := G4.out rfl
            go_wp2
            have HL1 := blk_put (blk_put (blk_put (alloc_old HL.out (Obj.cells #[(Value.int .i64 (rd_T30 cs j).f0), (Value.int .i64 (rd_T30 cs j).f1), (Value.int .i64 (rd_T30 cs j).f2)] 30)) 0 (Value.int .i64 (rd_T30 cs j).f0) rfl) 1 (Value.int .i64 (rd_T30 cs j).f1) rfl) 2 (Value.int .i64 (rd_T30 cs j).f2) rfl
            have HM1 := set_old (p := ⟨bl, 2, none⟩) (set_old (p := ⟨bl, 1, none⟩) (set_old (p := ⟨bl, 0, none⟩) (alloc_old HM.out (Obj.cells #[(Value.int .i64 (rd_T30 cs j).f0), (Value.int .i64 (rd_T30 cs j).f1), (Value.int .i64 (rd_T30 cs j).f2)] 30)) HN.out (Value.int .i64 (rd_T30 cs j).f0)) HN.out (Value.int .i64 (rd_T30 cs j).f1)) HN.out (Value.int .i64 (rd_T30 cs j).f2)
            have HS1 := set_old (p := ⟨bl, 2, none⟩) (set_old (p := ⟨bl, 1, none⟩) (set_old (p := ⟨bl, 0, none⟩) (alloc_old HS.out (Obj.cells #[(Value.int .i64 (rd_T30 cs j).f0), (Value.int .i64 (rd_T30 cs j).f1), (Value.int .i64 (rd_T30 cs j).f2)] 30)) HN2.out (Value.int .i64 (rd_T30 cs j).f0)) HN2.out (Value.int .i64 (rd_T30 cs j).f1)) HN2.out (Value.int .i64 (rd_T30 cs j).f2)
            have HN3 : (wr.heap.size : Nat) ≠ bl := fun e_ => by have := (Array.getElem?_eq_some_iff.1 HL.out).1; omega
            have HN4 : (wr.heap.size : Nat) ≠ bm := fun e_ => by have := (Array.getElem?_eq_some_iff.1 HM.out).1; omega
            have HX1 := set_old (p := ⟨bl, 2, none⟩) (set_old (p := ⟨bl, 1, none⟩) (set_old (p := ⟨bl, 0, none⟩) (alloc_new wr (Obj.cells #[(Value.int .i64 (rd_T30 cs j).f0), (Value.int .i64 (rd_T30 cs j).f1), (Value.int .i64 (rd_T30 cs j).f2)] 30)) HN3 (Value.int .i64 (rd_T30 cs j).f0)) HN3 (Value.int .i64 (rd_T30 cs j).f1)) HN3 (Value.int .i64 (rd_T30 cs j).f2)
            have HB1 := below_set (j := 2) (v := (Value.int .i64 (rd_T30 cs j).f2)) (below_set (j := 1) (v := (Value.int .i64 (rd_T30 cs j).f1)) (below_set (j := 0) (v := (Value.int .i64 (rd_T30 cs j).f0)) (below_alloc HB.out (Obj.cells #[(Value.int .i64 (rd_T30 cs j).f0), (Value.int .i64 (rd_T30 cs j).f1), (Value.int .i64 (rd_T30 cs j).f2)] 30)) HGE.out) HGE.out) HGE.out
            have HO0 := Kd.R_far1 HO.out rfl (Kd.R_ne HO.out HL.out (by decide))
            have HO1 := Kd.R_mono (Kd.R_far (p := ⟨bl, 2, none⟩) (Kd.R_far (p := ⟨bl, 1, none⟩) (Kd.R_far (p := ⟨bl, 0, none⟩) (Kd.R_alloc HO0 (Obj.cells #[(Value.int .i64 (rd_T30 cs j).f0), (Value.int .i64 (rd_T30 cs j).f1), (Value.int .i64 (rd_T30 cs j).f2)] 30)) (fun _ hk => hk.2) (Value.int .i64 (rd_T30 cs j).f0)) (fun _ hk => hk.2) (Value.int .i64 (rd_T30 cs j).f1)) (fun _ hk => hk.2) (Value.int .i64 (rd_T30 cs j).f2)) (fun _ _ => trivial)
            have HV1 := Kd.R_far (p := ⟨bl, 2, none⟩) (Kd.R_far (p := ⟨bl, 1, none⟩) (Kd.R_far (p := ⟨bl, 0, none⟩) (Kd.R_alloc HV.out (Obj.cells #[(Value.int .i64 (rd_T30 cs j).f0), (Value.int .i64 (rd_T30 cs j).f1), (Value.int .i64 (rd_T30 cs j).f2)] 30)) (fun _ hk => hk) (Value.int .i64 (rd_T30 cs j).f0)) (fun _ hk => hk) (Value.int .i64 (rd_T30 cs j).f1)) (fun _ hk => hk) (Value.int .i64 (rd_T30 cs j).f2)
            obtain ⟨W, hW⟩ : ∃ W_, ((((wr.alloc (Obj.cells #[(Value.int .i64 (rd_T30 cs j).f0), (Value.int .i64 (rd_T30 cs j).f1), (Value.int .i64 (rd_T30 cs j).f2)] 30)).setCell ⟨bl, 0, none⟩ (Value.int .i64 (rd_T30 cs j).f0)).setCell ⟨bl, 1, none⟩ (Value.int .i64 (rd_T30 cs j).f1)).setCell ⟨bl, 2, none⟩ (Value.int .i64 (rd_T30 cs j).f2)) = W_ := ⟨_, rfl⟩
            rw [hW] at HL1 HM1 HS1 HX1 HB1 HO1 HV1
            rw [hW]
            clear hW HL HM HS HB HO HV HO0 hl0 hl1 hl2 hf0 hf1 hf2 hx0 hx1 hx2
            have hc2 : W.cell? ⟨wr.heap.size, 2, none⟩ = some (Value.int .i64 (rd_T30 cs j).f2) := (blk_cell HX1 2).trans rfl
            have hm0 : W.cell? ⟨bm, 0, none⟩ = some (.int .i64 (cntJ cs 1 j)) := (blk_cell HM1 0).trans rfl
            have hm1 : W.cell? ⟨bm, 1, none⟩ = some (.int .i64 (cntJ cs 2 j)) := (blk_cell HM1 1).trans rfl
            have hm2 : W.cell? ⟨bm, 2, none⟩ = some (.int .i64 (cntJ cs 3 j)) := (blk_cell HM1 2).trans rfl
            have hfr := blk_frozen HM1
            have HL2 := Aside0.mk HL1
            have HM2 := Aside0.mk HM1
            have HS2 := Aside0.mk HS1
            have HB2 := Aside0.mk HB1
            have HO2 := Aside0.mk HO1
            have HV2 := Aside0.mk HV1
            clear HL1 HM1 HS1 HB1 HO1 HV1 HX1
            have hw1 := wrap_step j HJ.out.1 (by have := HJJ.out; have := HLN.out; omega)
            rcases G5.out with h2 | h2 | h2
            · have hsub : IntKind.i64.wrap ((rd_T30 cs j).f2 - 1) = 0 := by rw [h2]; rfl
              have hsum := cnt_next cs j HJ.out.1 HJJ.out HLN.out 1 h2
              have H2 := Aside0.mk h2
              clear h2
              go_still_tail 10, (by kernel_rfl)
              change wpList _ _ _ _ _ W.drew
              obtain ⟨W2, hW2⟩ : ∃ W_, W.drew = W_ := ⟨_, rfl⟩
              have HL3 := @id (W.drew.heap[bl]? = _) HL2.out
              have HM3 := @id (W.drew.heap[bm]? = _) HM2.out
              have HS3 := @id (W.drew.heap[bm + 1]? = _) HS2.out
              have HB3 := below_drew1 HB2.out
              have HO3 := Kd.R_drew HO2.out
              have HV3 := Kd.R_drew HV2.out
              rw [hW2] at HL3 HM3 HS3 HB3 HO3 HV3
              rw [hW2]
              clear hW2 hm0 hm1 hm2 hc2 hfr
              have hfr := blk_frozen HM3
              have hcell : W2.cell? ⟨bm, 0, none⟩ = some (.int .i64 (cntJ cs 1 j)) := (blk_cell HM3 0).trans rfl
              have HL4 := Aside0.mk HL3
              have HM4 := Aside0.mk HM3
              have HS4 := Aside0.mk HS3
              have HB4 := Aside0.mk HB3
              have HO4 := Aside0.mk HO3
              have HV4 := Aside0.mk HV3
              clear HL3 HM3 HS3 HB3 HO3 HV3
              go_wp2
              go_roundw
              case rel =>
                refine ⟨j + 1, by first | rfl | (rw [hw1]) | (simp [hw1]), ⟨by have := HJ.out; omega, by have := HJJ.out; omega⟩, ⟨below_set HB4.out HGM.out⟩, ⟨blk_put HM4.out 0 _ ?_⟩, ⟨set_old HS4.out (by show bm + 1 ≠ bm; omega) _⟩, ⟨?_⟩, ⟨?_⟩, ⟨?_⟩⟩
                · unfold row0
                  rw [cnt_stay cs j HJ.out.1 HJJ.out 2 (by rw [H2.out]; decide), cnt_stay cs j HJ.out.1 HJJ.out 3 (by rw [H2.out]; decide)]
                  rfl
                · unfold lastA
                  rw [if_neg (by have := HJ.out.1; omega), Int.add_sub_cancel]
                  exact set_old HL4.out (Ne.symm HN.out) _
                · exact Kd.R_mono (Kd.R_far (p := ⟨bm, 0, none⟩) (Kd.R_far1 HO4.out rfl (Kd.R_ne HO4.out HM4.out (by decide))) (fun _ hk => hk.2) _) (fun _ _ => trivial)
                · exact Kd.R_mono (Kd.R_far (p := ⟨bm, 0, none⟩) (Kd.R_far1 HV4.out rfl (Kd.R_ne HV4.out HM4.out (by decide))) (fun _ hk => hk.2) _) (fun _ hk => hk.1)
              case measure =>
                have h3 := HJJ.out
                have h4 := HJ.out
                simp [intOf, hw1]
                omega
            · have hsub : IntKind.i64.wrap ((rd_T30 cs j).f2 - 1) = 1 := by rw [h2]; rfl
              have hsum := cnt_next cs j HJ.out.1 HJJ.out HLN.out 2 h2
              have H2 := Aside0.mk h2
              clear h2
              go_still_tail 10, (by kernel_rfl)
              change wpList _ _ _ _ _ W.drew
              obtain ⟨W2, hW2⟩ : ∃ W_, W.drew = W_ := ⟨_, rfl⟩
              have HL3 := @id (W.drew.heap[bl]? = _) HL2.out
              have HM3 := @id (W.drew.heap[bm]? = _) HM2.out
              have HS3 := @id (W.drew.heap[bm + 1]? = _) HS2.out
              have HB3 := below_drew1 HB2.out
              have HO3 := Kd.R_drew HO2.out
              have HV3 := Kd.R_drew HV2.out
              rw [hW2] at HL3 HM3 HS3 HB3 HO3 HV3
              rw [hW2]
              clear hW2 hm0 hm1 hm2 hc2 hfr
              have hfr := blk_frozen HM3
              have hcell : W2.cell? ⟨bm, 1, none⟩ = some (.int .i64 (cntJ cs 2 j)) := (blk_cell HM3 1).trans rfl
              have HL4 := Aside0.mk HL3
              have HM4 := Aside0.mk HM3
              have HS4 := Aside0.mk HS3
              have HB4 := Aside0.mk HB3
              have HO4 := Aside0.mk HO3
              have HV4 := Aside0.mk HV3
              clear HL3 HM3 HS3 HB3 HO3 HV3
              go_wp2
              go_roundw
              case rel =>
                refine ⟨j + 1, by first | rfl | (rw [hw1]) | (simp [hw1]), ⟨by have := HJ.out; omega, by have := HJJ.out; omega⟩, ⟨below_set HB4.out HGM.out⟩, ⟨blk_put HM4.out 1 _ ?_⟩, ⟨set_old HS4.out (by show bm + 1 ≠ bm; omega) _⟩, ⟨?_⟩, ⟨?_⟩, ⟨?_⟩⟩
                · unfold row0
                  rw [cnt_stay cs j HJ.out.1 HJJ.out 1 (by rw [H2.out]; decide), cnt_stay cs j HJ.out.1 HJJ.out 3 (by rw [H2.out]; decide)]
                  rfl
                · unfold lastA
                  rw [if_neg (by have := HJ.out.1; omega), Int.add_sub_cancel]
                  exact set_old HL4.out (Ne.symm HN.out) _
                · exact Kd.R_mono (Kd.R_far (p := ⟨bm, 1, none⟩) (Kd.R_far1 HO4.out rfl (Kd.R_ne HO4.out HM4.out (by decide))) (fun _ hk => hk.2) _) (fun _ _ => trivial)
                · exact Kd.R_mono (Kd.R_far (p := ⟨bm, 1, none⟩) (Kd.R_far1 HV4.out rfl (Kd.R_ne HV4.out HM4.out (by decide))) (fun _ hk => hk.2) _) (fun _ hk => hk.1)
              case measure =>
                have h3 := HJJ.out
                have h4 := HJ.out
                simp [intOf, hw1]
                omega
            · have hsub : IntKind.i64.wrap ((rd_T30 cs j).f2 - 1) = 2 := by rw [h2]; rfl
              have hsum := cnt_next cs j HJ.out.1 HJJ.out HLN.out 3 h2
              have H2 := Aside0.mk h2
              clear h2
              go_still_tail 10, (by kernel_rfl)
              change wpList _ _ _ _ _ W.drew
              obtain ⟨W2, hW2⟩ : ∃ W_, W.drew = W_ := ⟨_, rfl⟩
              have HL3 := @id (W.drew.heap[bl]? = _) HL2.out
              have HM3 := @id (W.drew.heap[bm]? = _) HM2.out
              have HS3 := @id (W.drew.heap[bm + 1]? = _) HS2.out
              have HB3 := below_drew1 HB2.out
              have HO3 := Kd.R_drew HO2.out
              have HV3 := Kd.R_drew HV2.out
              rw [hW2] at HL3 HM3 HS3 HB3 HO3 HV3
              rw [hW2]
              clear hW2 hm0 hm1 hm2 hc2 hfr
              have hfr := blk_frozen HM3
              have hcell : W2.cell? ⟨bm, 2, none⟩ = some (.int .i64 (cntJ cs 3 j)) := (blk_cell HM3 2).trans rfl
              have HL4 := Aside0.mk HL3
              have HM4 := Aside0.mk HM3
              have HS4 := Aside0.mk HS3
              have HB4 := Aside0.mk HB3
              have HO4 := Aside0.mk HO3
              have HV4 := Aside0.mk HV3
              clear HL3 HM3 HS3 HB3 HO3 HV3
              go_wp2
              go_roundw
              case rel =>
                refine ⟨j + 1, by first | rfl | (rw [hw1]) | (simp [hw1]), ⟨by have := HJ.out; omega, by have := HJJ.out; omega⟩, ⟨below_set HB4.out HGM.out⟩, ⟨blk_put HM4.out 2 _ ?_⟩, ⟨set_old HS4.out (by show bm + 1 ≠ bm; omega) _⟩, ⟨?_⟩, ⟨?_⟩, ⟨?_⟩⟩
                · unfold row0
                  rw [cnt_stay cs j HJ.out.1 HJJ.out 1 (by rw [H2.out]; decide), cnt_stay cs j HJ.out.1 HJJ.out 2 (by rw [H2.out]; decide)]
                  rfl
                · unfold lastA
                  rw [if_neg (by have := HJ.out.1; omega), Int.add_sub_cancel]
                  exact set_old HL4.out (Ne.symm HN.out) _
                · exact Kd.R_mono (Kd.R_far (p := ⟨bm, 2, none⟩) (Kd.R_far1 HO4.out rfl (Kd.R_ne HO4.out HM4.out (by decide))) (fun _ hk => hk.2) _) (fun _ _ => trivial)
                · exact Kd.R_mono (Kd.R_far (p := ⟨bm, 2, none⟩) (Kd.R_far1 HV4.out rfl (Kd.R_ne HV4.out HM4.out (by decide))) (fun _ hk => hk.2) _) (fun _ hk => hk.1)
              case measure =>
                have h3 := HJJ.out
                have h4 := HJ.out
                simp [intOf, hw1]
                omega
        · have qj : decide (j < (cs.length : Int)) = false := decide_eq_false hj
          have hje : j = (cs.length : Int) := by have := HJ.out.2; omega
          clear hj
          go_wp2
          go_roundw
          case rel =>
            refine ⟨0 + 1, rfl, ⟨by omega, by omega⟩, HB, ⟨?_⟩, HS, HO⟩
            rw [hje] at HM
            rw [show manyA (cntV l0) (cntV y143) (0 + 1) = row0 cs (cs.length : Int) from by rw [← HCS.out]; exact fin_0 _ _]
            exact HM.out
          case measure => simp [intOf]
    · by_cases hx1 : x = 1
      · subst hx1
        have hs0 : wr.cell? ⟨bm + 1, 1, none⟩ = some (.slice Ao24 y143.length co24) := (blk_cell HS.out 1).trans rfl
        obtain ⟨bl, hbl⟩ : ∃ b : Nat, wr.heap.size = b := ⟨_, rfl⟩
        have HBL := Aside0.mk hbl
        have HGW : Aside0 (w.heap.size ≤ bl) := ⟨by rw [← hbl]; exact below_size HB.out⟩
        go_wp2_with (first | (go_at_call 11; (with_reducible refine (calcheck_Check.calls k _ _ y143 (chk y143 y143.length) _ ?side1 ?side2 K2.out).mono ?_); (case side1 => exact (Kd.R_reads' (Kd.R_alloc HO.out _)).2.2); (case side2 => exact (Kd.R_reads' HO.out).2.1); rintro e w2 ⟨v2, rfl, ho0, hb⟩; have n0_ := Aside0.mk (below_old (alloc_old HM.out _) hb); have n1_ := Aside0.mk (below_old (alloc_old HS.out _) hb); have n2_ := Aside0.mk (Kd.R_below (Kd.R_alloc HO.out _) hb); have n3_ := Aside0.mk (below_step (by repeat (first | (with_reducible first | exact HB.out | apply below_alloc | apply pw_below_drewN | apply below_drew1) | exact HB.out)) hb); have n4_ := Aside0.mk (below_old (alloc_new _ _) hb); have n5_ := Aside0.mk (Kd.R_lower (Kd.R_mono (Kd.R_newB ho0 (alloc_new _ _)) (fun k_ hk_ => hk_.2)) (below_size (by repeat (first | (with_reducible first | exact HB.out | apply below_alloc | apply pw_below_drewN | apply below_drew1) | exact HB.out)))); clear HM HS HO HB hs0; have HM := n0_; have HS := n1_; have HO := n2_; have HB := n3_; have HL := n4_; have HV := n5_; clear n0_ n1_ n2_ n3_ n4_ n5_ hb ho0; obtain ⟨Ao2, co2, eo2⟩ := Kd.R_slice HV.out; subst eo2))
        rw [hbl] at HL HV
        have HGE : Aside0 (w.heap.size ≤ bl) := HGW
        have HGM : Aside0 (w.heap.size ≤ bm) := ⟨by rw [← hbmn]; exact hbm⟩
        have HLN : Aside0 (((chk y143 y143.length)).length ≤ 1000) := HLL1
        have GC : Aside0 (Good (chk y143 y143.length)) := HG1
        obtain ⟨cs, hcs⟩ : ∃ l_, (chk y143 y143.length) = l_ := ⟨_, rfl⟩
        rw [hcs] at HV GC HLN
        have HCS := Aside0.mk hcs
        have hu30 := Try.underlying30
        simp only [hcs]
        clear hcs
        have HN := Aside0.mk (show (bm : Nat) ≠ bl from blk_ne HM.out HL.out (by decide))
        have HN2 := Aside0.mk (show (bm + 1 : Nat) ≠ bl from blk_ne HS.out HL.out (by decide))
        go_loopw [50] (fun v50 wq => ∃ j : Int, v50 = .int .i64 j ∧ Aside0 (0 ≤ j ∧ j ≤ (cs.length : Int)) ∧ Aside0 (Below w.heap.size w wq) ∧ Aside0 (wq.heap[bm]? = some (.cells (row1 (cntV l0) cs j) 46)) ∧ Aside0 (wq.heap[bm + 1]? = some (.cells #[Value.slice A0 l0.length c0, Value.slice Ao24 y143.length co24] 22)) ∧ Aside0 (wq.heap[bl]? = some (.cells (lastA cs j) 30)) ∧ Aside0 (Kd.R k33 33 wq w.heap.size (fun _ => True) (.slice Ao24 y143.length co24) y143) ∧ Aside0 (Kd.R k30 30 wq w.heap.size (fun k_ => k_ ≠ bl) (.slice Ao2 cs.length co2) cs)) (fun v50 _ => ((cs.length : Int) - intOf v50).toNat)
        case atStart => exact ⟨0, rfl, ⟨by omega, by omega⟩, HB, HM, HS, HL, HO, HV⟩
        case round =>
          clear HB HM HS HO HL HV
          obtain ⟨j, rfl, HJ, HB, HM, HS, HL, HO, HV⟩ := hrel
          by_cases hj : j < (cs.length : Int)
          · obtain ⟨a, b, c, g1, g2, g3, g4, g5⟩ := GC.out j HJ.out.1 hj
            rw [g1] at HL
            have qj : decide (j < (cs.length : Int)) = true := decide_eq_true hj
            have pj := HJ.out.1
            obtain ⟨ad, e_, hx0, hx1, hx2⟩ := at_T30 (Kd.R_reads' HV.out).2.2 j pj hj
            cases e_
            have HJJ := Aside0.mk hj
            have G4 := Aside0.mk g4
            have G5 := Aside0.mk g5
            clear g4 g5 g1
            replace hj := eq_true hj
            replace pj := eq_true pj
            have hl0 := fun (o : Obj) => (blk_cell (alloc_old HL.out o) 0).trans (show _ = some (Value.int .i64 a) from rfl)
            have hl1 := fun (o : Obj) => (blk_cell (alloc_old HL.out o) 1).trans (show _ = some (Value.int .i64 b) from rfl)
            have hl2 := fun (o : Obj) => (blk_cell (alloc_old HL.out o) 2).trans (show _ = some (Value.int .i64 c) from rfl)
            have hf0 := fun (o : Obj) => blk_frozen (alloc_old HL.out o) 0
            have hf1 := fun (o : Obj) => blk_frozen (alloc_old HL.out o) 1
            have hf2 := fun (o : Obj) => blk_frozen (alloc_old HL.out o) 2
            have hg1 : decide (1 ≤ (rd_T30 cs j).f2) = true := decide_eq_true (by rcases G5.out with h | h | h <;> omega)
            have hg2 : decide ((rd_T30 cs j).f2 < 1) = false := decide_eq_false (by rcases G5.out with h | h | h <;> omega)
            have hg3 : decide (3 < (rd_T30 cs j).f2) = false := decide_eq_false (by rcases G5.out with h | h | h <;> omega)
            obtain ⟨q0, hq0⟩ : ∃ q_, ((rd_T30 cs j).f0 == a) = q_ := ⟨_, rfl⟩
            rw [hq0] at G4
            cases q0 with
            | false =>
              go_wp2
              have HL1 := blk_put (blk_put (blk_put (alloc_old HL.out (Obj.cells #[(Value.int .i64 (rd_T30 cs j).f0), (Value.int .i64 (rd_T30 cs j).f1), (Value.int .i64 (rd_T30 cs j).f2)] 30)) 0 (Value.int .i64 (rd_T30 cs j).f0) rfl) 1 (Value.int .i64 (rd_T30 cs j).f1) rfl) 2 (Value.int .i64 (rd_T30 cs j).f2) rfl
              have HM1 := set_old (p := ⟨bl, 2, none⟩) (set_old (p := ⟨bl, 1, none⟩) (set_old (p := ⟨bl, 0, none⟩) (alloc_old HM.out (Obj.cells #[(Value.int .i64 (rd_T30 cs j).f0), (Value.int .i64 (rd_T30 cs j).f1), (Value.int .i64 (rd_T30 cs j).f2)] 30)) HN.out (Value.int .i64 (rd_T30 cs j).f0)) HN.out (Value.int .i64 (rd_T30 cs j).f1)) HN.out (Value.int .i64 (rd_T30 cs j).f2)
              have HS1 := set_old (p := ⟨bl, 2, none⟩) (set_old (p := ⟨bl, 1, none⟩) (set_old (p := ⟨bl, 0, none⟩) (alloc_old HS.out (Obj.cells #[(Value.int .i64 (rd_T30 cs j).f0), (Value.int .i64 (rd_T30 cs j).f1), (Value.int .i64 (rd_T30 cs j).f2)] 30)) HN2.out (Value.int .i64 (rd_T30 cs j).f0)) HN2.out (Value.int .i64 (rd_T30 cs j).f1)) HN2.out (Value.int .i64 (rd_T30 cs j).f2)
              have HN3 : (wr.heap.size : Nat) ≠ bl := fun e_ => by have := (Array.getElem?_eq_some_iff.1 HL.out).1; omega
              have HN4 : (wr.heap.size : Nat) ≠ bm := fun e_ => by have := (Array.getElem?_eq_some_iff.1 HM.out).1; omega
              have HX1 := set_old (p := ⟨bl, 2, none⟩) (set_old (p := ⟨bl, 1, none⟩) (set_old (p := ⟨bl, 0, none⟩) (alloc_new wr (Obj.cells #[(Value.int .i64 (rd_T30 cs j).f0), (Value.int .i64 (rd_T30 cs j).f1), (Value.int .i64 (rd_T30 cs j).f2)] 30)) HN3 (Value.int .i64 (rd_T30 cs j).f0)) HN3 (Value.int .i64 (rd_T30 cs j).f1)) HN3 (Value.int .i64 (rd_T30 cs j).f2)
              have HB1 := below_set (j := 2) (v := (Value.int .i64 (rd_T30 cs j).f2)) (below_set (j := 1) (v := (Value.int .i64 (rd_T30 cs j).f1)) (below_set (j := 0) (v := (Value.int .i64 (rd_T30 cs j).f0)) (below_alloc HB.out (Obj.cells #[(Value.int .i64 (rd_T30 cs j).f0), (Value.int .i64 (rd_T30 cs j).f1), (Value.int .i64 (rd_T30 cs j).f2)] 30)) HGE.out) HGE.out) HGE.out
              have HO0 := Kd.R_far1 HO.out rfl (Kd.R_ne HO.out HL.out (by decide))
              have HO1 := Kd.R_mono (Kd.R_far (p := ⟨bl, 2, none⟩) (Kd.R_far (p := ⟨bl, 1, none⟩) (Kd.R_far (p := ⟨bl, 0, none⟩) (Kd.R_alloc HO0 (Obj.cells #[(Value.int .i64 (rd_T30 cs j).f0), (Value.int .i64 (rd_T30 cs j).f1), (Value.int .i64 (rd_T30 cs j).f2)] 30)) (fun _ hk => hk.2) (Value.int .i64 (rd_T30 cs j).f0)) (fun _ hk => hk.2) (Value.int .i64 (rd_T30 cs j).f1)) (fun _ hk => hk.2) (Value.int .i64 (rd_T30 cs j).f2)) (fun _ _ => trivial)
              have HV1 := Kd.R_far (p := ⟨bl, 2, none⟩) (Kd.R_far (p := ⟨bl, 1, none⟩) (Kd.R_far (p := ⟨bl, 0, none⟩) (Kd.R_alloc HV.out (Obj.cells #[(Value.int .i64 (rd_T30 cs j).f0), (Value.int .i64 (rd_T30 cs j).f1), (Value.int .i64 (rd_T30 cs j).f2)] 30)) (fun _ hk => hk) (Value.int .i64 (rd_T30 cs j).f0)) (fun _ hk => hk) (Value.int .i64 (rd_T30 cs j).f1)) (fun _ hk => hk) (Value.int .i64 (rd_T30 cs j).f2)
              obtain ⟨W, hW⟩ : ∃ W_, ((((wr.alloc (Obj.cells #[(Value.int .i64 (rd_T30 cs j).f0), (Value.int .i64 (rd_T30 cs j).f1), (Value.int .i64 (rd_T30 cs j).f2)] 30)).setCell ⟨bl, 0, none⟩ (Value.int .i64 (rd_T30 cs j).f0)).setCell ⟨bl, 1, none⟩ (Value.int .i64 (rd_T30 cs j).f1)).setCell ⟨bl, 2, none⟩ (Value.int .i64 (rd_T30 cs j).f2)) = W_ := ⟨_, rfl⟩
              rw [hW] at HL1 HM1 HS1 HX1 HB1 HO1 HV1
              rw [hW]
              clear hW HL HM HS HB HO HV HO0 hl0 hl1 hl2 hf0 hf1 hf2 hx0 hx1 hx2
              have hc2 : W.cell? ⟨wr.heap.size, 2, none⟩ = some (Value.int .i64 (rd_T30 cs j).f2) := (blk_cell HX1 2).trans rfl
              have hm0 : W.cell? ⟨bm, 3, none⟩ = some (.int .i64 (cntJ cs 1 j)) := (blk_cell HM1 3).trans rfl
              have hm1 : W.cell? ⟨bm, 4, none⟩ = some (.int .i64 (cntJ cs 2 j)) := (blk_cell HM1 4).trans rfl
              have hm2 : W.cell? ⟨bm, 5, none⟩ = some (.int .i64 (cntJ cs 3 j)) := (blk_cell HM1 5).trans rfl
              have hfr := blk_frozen HM1
              have HL2 := Aside0.mk HL1
              have HM2 := Aside0.mk HM1
              have HS2 := Aside0.mk HS1
              have HB2 := Aside0.mk HB1
              have HO2 := Aside0.mk HO1
              have HV2 := Aside0.mk HV1
              clear HL1 HM1 HS1 HB1 HO1 HV1 HX1
              have hw1 := wrap_step j HJ.out.1 (by have := HJJ.out; have := HLN.out; omega)
              rcases G5.out with h2 | h2 | h2
              · have hsub : IntKind.i64.wrap ((rd_T30 cs j).f2 - 1) = 0 := by rw [h2]; rfl
                have hsum := cnt_next cs j HJ.out.1 HJJ.out HLN.out 1 h2
                have H2 := Aside0.mk h2
                clear h2
                go_still_tail 10, (by kernel_rfl)
                change wpList _ _ _ _ _ W.drew
                obtain ⟨W2, hW2⟩ : ∃ W_, W.drew = W_ := ⟨_, rfl⟩
                have HL3 := @id (W.drew.heap[bl]? = _) HL2.out
                have HM3 := @id (W.drew.heap[bm]? = _) HM2.out
                have HS3 := @id (W.drew.heap[bm + 1]? = _) HS2.out
                have HB3 := below_drew1 HB2.out
                have HO3 := Kd.R_drew HO2.out
                have HV3 := Kd.R_drew HV2.out
                rw [hW2] at HL3 HM3 HS3 HB3 HO3 HV3
                rw [hW2]
                clear hW2 hm0 hm1 hm2 hc2 hfr
                have hfr := blk_frozen HM3
                have hcell : W2.cell? ⟨bm, 3, none⟩ = some (.int .i64 (cntJ cs 1 j)) := (blk_cell HM3 3).trans rfl
                have HL4 := Aside0.mk HL3
                have HM4 := Aside0.mk HM3
                have HS4 := Aside0.mk HS3
                have HB4 := Aside0.mk HB3
                have HO4 := Aside0.mk HO3
                have HV4 := Aside0.mk HV3
                clear HL3 HM3 HS3 HB3 HO3 HV3
                go_wp2
                go_roundw
                case rel =>
                  refine ⟨j + 1, by first | rfl | (rw [hw1]) | (simp [hw1]), ⟨by have := HJ.out; omega, by have := HJJ.out; omega⟩, ⟨below_set HB4.out HGM.out⟩, ⟨blk_put HM4.out 3 _ ?_⟩, ⟨set_old HS4.out (by show bm + 1 ≠ bm; omega) _⟩, ⟨?_⟩, ⟨?_⟩, ⟨?_⟩⟩
                  · unfold row1
                    rw [cnt_stay cs j HJ.out.1 HJJ.out 2 (by rw [H2.out]; decide), cnt_stay cs j HJ.out.1 HJJ.out 3 (by rw [H2.out]; decide)]
                    rfl
                  · unfold lastA
                    rw [if_neg (by have := HJ.out.1; omega), Int.add_sub_cancel]
                    exact set_old HL4.out (Ne.symm HN.out) _
                  · exact Kd.R_mono (Kd.R_far (p := ⟨bm, 3, none⟩) (Kd.R_far1 HO4.out rfl (Kd.R_ne HO4.out HM4.out (by decide))) (fun _ hk => hk.2) _) (fun _ _ => trivial)
                  · exact Kd.R_mono (Kd.R_far (p := ⟨bm, 3, none⟩) (Kd.R_far1 HV4.out rfl (Kd.R_ne HV4.out HM4.out (by decide))) (fun _ hk => hk.2) _) (fun _ hk => hk.1)
                case measure =>
                  have h3 := HJJ.out
                  have h4 := HJ.out
                  simp [intOf, hw1]
                  omega
              · have hsub : IntKind.i64.wrap ((rd_T30 cs j).f2 - 1) = 1 := by rw [h2]; rfl
                have hsum := cnt_next cs j HJ.out.1 HJJ.out HLN.out 2 h2
                have H2 := Aside0.mk h2
                clear h2
                go_still_tail 10, (by kernel_rfl)
                change wpList _ _ _ _ _ W.drew
                obtain ⟨W2, hW2⟩ : ∃ W_, W.drew = W_ := ⟨_, rfl⟩
                have HL3 := @id (W.drew.heap[bl]? = _) HL2.out
                have HM3 := @id (W.drew.heap[bm]? = _) HM2.out
                have HS3 := @id (W.drew.heap[bm + 1]? = _) HS2.out
                have HB3 := below_drew1 HB2.out
                have HO3 := Kd.R_drew HO2.out
                have HV3 := Kd.R_drew HV2.out
                rw [hW2] at HL3 HM3 HS3 HB3 HO3 HV3
                rw [hW2]
                clear hW2 hm0 hm1 hm2 hc2 hfr
                have hfr := blk_frozen HM3
                have hcell : W2.cell? ⟨bm, 4, none⟩ = some (.int .i64 (cntJ cs 2 j)) := (blk_cell HM3 4).trans rfl
                have HL4 := Aside0.mk HL3
                have HM4 := Aside0.mk HM3
                have HS4 := Aside0.mk HS3
                have HB4 := Aside0.mk HB3
                have HO4 := Aside0.mk HO3
                have HV4 := Aside0.mk HV3
                clear HL3 HM3 HS3 HB3 HO3 HV3
                go_wp2
                go_roundw
                case rel =>
                  refine ⟨j + 1, by first | rfl | (rw [hw1]) | (simp [hw1]), ⟨by have := HJ.out; omega, by have := HJJ.out; omega⟩, ⟨below_set HB4.out HGM.out⟩, ⟨blk_put HM4.out 4 _ ?_⟩, ⟨set_old HS4.out (by show bm + 1 ≠ bm; omega) _⟩, ⟨?_⟩, ⟨?_⟩, ⟨?_⟩⟩
                  · unfold row1
                    rw [cnt_stay cs j HJ.out.1 HJJ.out 1 (by rw [H2.out]; decide), cnt_stay cs j HJ.out.1 HJJ.out 3 (by rw [H2.out]; decide)]
                    rfl
                  · unfold lastA
                    rw [if_neg (by have := HJ.out.1; omega), Int.add_sub_cancel]
                    exact set_old HL4.out (Ne.symm HN.out) _
                  · exact Kd.R_mono (Kd.R_far (p := ⟨bm, 4, none⟩) (Kd.R_far1 HO4.out rfl (Kd.R_ne HO4.out HM4.out (by decide))) (fun _ hk => hk.2) _) (fun _ _ => trivial)
                  · exact Kd.R_mono (Kd.R_far (p := ⟨bm, 4, none⟩) (Kd.R_far1 HV4.out rfl (Kd.R_ne HV4.out HM4.out (by decide))) (fun _ hk => hk.2) _) (fun _ hk => hk.1)
                case measure =>
                  have h3 := HJJ.out
                  have h4 := HJ.out
                  simp [intOf, hw1]
                  omega
              · have hsub : IntKind.i64.wrap ((rd_T30 cs j).f2 - 1) = 2 := by rw [h2]; rfl
                have hsum := cnt_next cs j HJ.out.1 HJJ.out HLN.out 3 h2
                have H2 := Aside0.mk h2
                clear h2
                go_still_tail 10, (by kernel_rfl)
                change wpList _ _ _ _ _ W.drew
                obtain ⟨W2, hW2⟩ : ∃ W_, W.drew = W_ := ⟨_, rfl⟩
                have HL3 := @id (W.drew.heap[bl]? = _) HL2.out
                have HM3 := @id (W.drew.heap[bm]? = _) HM2.out
                have HS3 := @id (W.drew.heap[bm + 1]? = _) HS2.out
                have HB3 := below_drew1 HB2.out
                have HO3 := Kd.R_drew HO2.out
                have HV3 := Kd.R_drew HV2.out
                rw [hW2] at HL3 HM3 HS3 HB3 HO3 HV3
                rw [hW2]
                clear hW2 hm0 hm1 hm2 hc2 hfr
                have hfr := blk_frozen HM3
                have hcell : W2.cell? ⟨bm, 5, none⟩ = some (.int .i64 (cntJ cs 3 j)) := (blk_cell HM3 5).trans rfl
                have HL4 := Aside0.mk HL3
                have HM4 := Aside0.mk HM3
                have HS4 := Aside0.mk HS3
                have HB4 := Aside0.mk HB3
                have HO4 := Aside0.mk HO3
                have HV4 := Aside0.mk HV3
                clear HL3 HM3 HS3 HB3 HO3 HV3
                go_wp2
                go_roundw
                case rel =>
                  refine ⟨j + 1, by first | rfl | (rw [hw1]) | (simp [hw1]), ⟨by have := HJ.out; omega, by have := HJJ.out; omega⟩, ⟨below_set HB4.out HGM.out⟩, ⟨blk_put HM4.out 5 _ ?_⟩, ⟨set_old HS4.out (by show bm + 1 ≠ bm; omega) _⟩, ⟨?_⟩, ⟨?_⟩, ⟨?_⟩⟩
                  · unfold row1
                    rw [cnt_stay cs j HJ.out.1 HJJ.out 1 (by rw [H2.out]; decide), cnt_stay cs j HJ.out.1 HJJ.out 2 (by rw [H2.out]; decide)]
                    rfl
                  · unfold lastA
                    rw [if_neg (by have := HJ.out.1; omega), Int.add_sub_cancel]
                    exact set_old HL4.out (Ne.symm HN.out) _
                  · exact Kd.R_mono (Kd.R_far (p := ⟨bm, 5, none⟩) (Kd.R_far1 HO4.out rfl (Kd.R_ne HO4.out HM4.out (by decide))) (fun _ hk => hk.2) _) (fun _ _ => trivial)
                  · exact Kd.R_mono (Kd.R_far (p := ⟨bm, 5, none⟩) (Kd.R_far1 HV4.out rfl (Kd.R_ne HV4.out HM4.out (by decide))) (fun _ hk => hk.2) _) (fun _ hk => hk.1)
                case measure =>
                  have h3 := HJJ.out
                  have h4 := HJ.out
                  simp [intOf, hw1]
                  omega
            | true =>
              have hg4 := G4.out rfl
              go_wp2
              have HL1 := blk_put (blk_put (blk_put (alloc_old HL.out (Obj.cells #[(Value.int .i64 (rd_T30 cs j).f0), (Value.int .i64 (rd_T30 cs j).f1), (Value.int .i64 (rd_T30 cs j).f2)] 30)) 0 (Value.int .i64 (rd_T30 cs j).f0) rfl) 1 (Value.int .i64 (rd_T30 cs j).f1) rfl) 2 (Value.int .i64 (rd_T30 cs j).f2) rfl
              have HM1 := set_old (p := ⟨bl, 2, none⟩) (set_old (p := ⟨bl, 1, none⟩) (set_old (p := ⟨bl, 0, none⟩) (alloc_old HM.out (Obj.cells #[(Value.int .i64 (rd_T30 cs j).f0), (Value.int .i64 (rd_T30 cs j).f1), (Value.int .i64 (rd_T30 cs j).f2)] 30)) HN.out (Value.int .i64 (rd_T30 cs j).f0)) HN.out (Value.int .i64 (rd_T30 cs j).f1)) HN.out (Value.int .i64 (rd_T30 cs j).f2)
              have HS1 := set_old (p := ⟨bl, 2, none⟩) (set_old (p := ⟨bl, 1, none⟩) (set_old (p := ⟨bl, 0, none⟩) (alloc_old HS.out (Obj.cells #[(Value.int .i64 (rd_T30 cs j).f0), (Value.int .i64 (rd_T30 cs j).f1), (Value.int .i64 (rd_T30 cs j).f2)] 30)) HN2.out (Value.int .i64 (rd_T30 cs j).f0)) HN2.out (Value.int .i64 (rd_T30 cs j).f1)) HN2.out (Value.int .i64 (rd_T30 cs j).f2)
              have HN3 : (wr.heap.size : Nat) ≠ bl := fun e_ => by have := (Array.getElem?_eq_some_iff.1 HL.out).1; omega
              have HN4 : (wr.heap.size : Nat) ≠ bm := fun e_ => by have := (Array.getElem?_eq_some_iff.1 HM.out).1; omega
              have HX1 := set_old (p := ⟨bl, 2, none⟩) (set_old (p := ⟨bl, 1, none⟩) (set_old (p := ⟨bl, 0, none⟩) (alloc_new wr (Obj.cells #[(Value.int .i64 (rd_T30 cs j).f0), (Value.int .i64 (rd_T30 cs j).f1), (Value.int .i64 (rd_T30 cs j).f2)] 30)) HN3 (Value.int .i64 (rd_T30 cs j).f0)) HN3 (Value.int .i64 (rd_T30 cs j).f1)) HN3 (Value.int .i64 (rd_T30 cs j).f2)
              have HB1 := below_set (j := 2) (v := (Value.int .i64 (rd_T30 cs j).f2)) (below_set (j := 1) (v := (Value.int .i64 (rd_T30 cs j).f1)) (below_set (j := 0) (v := (Value.int .i64 (rd_T30 cs j).f0)) (below_alloc HB.out (Obj.cells #[(Value.int .i64 (rd_T30 cs j).f0), (Value.int .i64 (rd_T30 cs j).f1), (Value.int .i64 (rd_T30 cs j).f2)] 30)) HGE.out) HGE.out) HGE.out
              have HO0 := Kd.R_far1 HO.out rfl (Kd.R_ne HO.out HL.out (by decide))
              have HO1 := Kd.R_mono (Kd.R_far (p := ⟨bl, 2, none⟩) (Kd.R_far (p := ⟨bl, 1, none⟩) (Kd.R_far (p := ⟨bl, 0, none⟩) (Kd.R_alloc HO0 (Obj.cells #[(Value.int .i64 (rd_T30 cs j).f0), (Value.int .i64 (rd_T30 cs j).f1), (Value.int .i64 (rd_T30 cs j).f2)] 30)) (fun _ hk => hk.2) (Value.int .i64 (rd_T30 cs j).f0)) (fun _ hk => hk.2) (Value.int .i64 (rd_T30 cs j).f1)) (fun _ hk => hk.2) (Value.int .i64 (rd_T30 cs j).f2)) (fun _ _ => trivial)
              have HV1 := Kd.R_far (p := ⟨bl, 2, none⟩) (Kd.R_far (p := ⟨bl, 1, none⟩) (Kd.R_far (p := ⟨bl, 0, none⟩) (Kd.R_alloc HV.out (Obj.cells #[(Value.int .i64 (rd_T30 cs j).f0), (Value.int .i64 (rd_T30 cs j).f1), (Value.int .i64 (rd_T30 cs j).f2)] 30)) (fun _ hk => hk) (Value.int .i64 (rd_T30 cs j).f0)) (fun _ hk => hk) (Value.int .i64 (rd_T30 cs j).f1)) (fun _ hk => hk) (Value.int .i64 (rd_T30 cs j).f2)
              obtain ⟨W, hW⟩ : ∃ W_, ((((wr.alloc (Obj.cells #[(Value.int .i64 (rd_T30 cs j).f0), (Value.int .i64 (rd_T30 cs j).f1), (Value.int .i64 (rd_T30 cs j).f2)] 30)).setCell ⟨bl, 0, none⟩ (Value.int .i64 (rd_T30 cs j).f0)).setCell ⟨bl, 1, none⟩ (Value.int .i64 (rd_T30 cs j).f1)).setCell ⟨bl, 2, none⟩ (Value.int .i64 (rd_T30 cs j).f2)) = W_ := ⟨_, rfl⟩
              rw [hW] at HL1 HM1 HS1 HX1 HB1 HO1 HV1
              rw [hW]
              clear hW HL HM HS HB HO HV HO0 hl0 hl1 hl2 hf0 hf1 hf2 hx0 hx1 hx2
              have hc2 : W.cell? ⟨wr.heap.size, 2, none⟩ = some (Value.int .i64 (rd_T30 cs j).f2) := (blk_cell HX1 2).trans rfl
              have hm0 : W.cell? ⟨bm, 3, none⟩ = some (.int .i64 (cntJ cs 1 j)) := (blk_cell HM1 3).trans rfl
              have hm1 : W.cell? ⟨bm, 4, none⟩ = some (.int .i64 (cntJ cs 2 j)) := (blk_cell HM1 4).trans rfl
              have hm2 : W.cell? ⟨bm, 5, none⟩ = some (.int .i64 (cntJ cs 3 j)) := (blk_cell HM1 5).trans rfl
              have hfr := blk_frozen HM1
              have HL2 := Aside0.mk HL1
              have HM2 := Aside0.mk HM1
              have HS2 := Aside0.mk HS1
              have HB2 := Aside0.mk HB1
              have HO2 := Aside0.mk HO1
              have HV2 := Aside0.mk HV1
              clear HL1 HM1 HS1 HB1 HO1 HV1 HX1
              have hw1 := wrap_step j HJ.out.1 (by have := HJJ.out; have := HLN.out; omega)
              rcases G5.out with h2 | h2 | h2
              · have hsub : IntKind.i64.wrap ((rd_T30 cs j).f2 - 1) = 0 := by rw [h2]; rfl
                have hsum := cnt_next cs j HJ.out.1 HJJ.out HLN.out 1 h2
                have H2 := Aside0.mk h2
                clear h2
                go_still_tail 10, (by kernel_rfl)
                change wpList _ _ _ _ _ W.drew
                obtain ⟨W2, hW2⟩ : ∃ W_, W.drew = W_ := ⟨_, rfl⟩
                have HL3 := @id (W.drew.heap[bl]? = _) HL2.out
                have HM3 := @id (W.drew.heap[bm]? = _) HM2.out
                have HS3 := @id (W.drew.heap[bm + 1]? = _) HS2.out
                have HB3 := below_drew1 HB2.out
                have HO3 := Kd.R_drew HO2.out
                have HV3 := Kd.R_drew HV2.out
                rw [hW2] at HL3 HM3 HS3 HB3 HO3 HV3
                rw [hW2]
                clear hW2 hm0 hm1 hm2 hc2 hfr
                have hfr := blk_frozen HM3
                have hcell : W2.cell? ⟨bm, 3, none⟩ = some (.int .i64 (cntJ cs 1 j)) := (blk_cell HM3 3).trans rfl
                have HL4 := Aside0.mk HL3
                have HM4 := Aside0.mk HM3
                have HS4 := Aside0.mk HS3
                have HB4 := Aside0.mk HB3
                have HO4 := Aside0.mk HO3
                have HV4 := Aside0.mk HV3
                clear HL3 HM3 HS3 HB3 HO3 HV3
                go_wp2
                go_roundw
                case rel =>
                  refine ⟨j + 1, by first | rfl | (rw [hw1]) | (simp [hw1]), ⟨by have := HJ.out; omega, by have := HJJ.out; omega⟩, ⟨below_set HB4.out HGM.out⟩, ⟨blk_put HM4.out 3 _ ?_⟩, ⟨set_old HS4.out (by show bm + 1 ≠ bm; omega) _⟩, ⟨?_⟩, ⟨?_⟩, ⟨?_⟩⟩
                  · unfold row1
                    rw [cnt_stay cs j HJ.out.1 HJJ.out 2 (by rw [H2.out]; decide), cnt_stay cs j HJ.out.1 HJJ.out 3 (by rw [H2.out]; decide)]
                    rfl
                  · unfold lastA
                    rw [if_neg (by have := HJ.out.1; omega), Int.add_sub_cancel]
                    exact set_old HL4.out (Ne.symm HN.out) _
                  · exact Kd.R_mono (Kd.R_far (p := ⟨bm, 3, none⟩) (Kd.R_far1 HO4.out rfl (Kd.R_ne HO4.out HM4.out (by decide))) (fun _ hk => hk.2) _) (fun _ _ => trivial)
                  · exact Kd.R_mono (Kd.R_far (p := ⟨bm, 3, none⟩) (Kd.R_far1 HV4.out rfl (Kd.R_ne HV4.out HM4.out (by decide))) (fun _ hk => hk.2) _) (fun _ hk => hk.1)
                case measure =>
                  have h3 := HJJ.out
                  have h4 := HJ.out
                  simp [intOf, hw1]
                  omega
              · have hsub : IntKind.i64.wrap ((rd_T30 cs j).f2 - 1) = 1 := by rw [h2]; rfl
                have hsum := cnt_next cs j HJ.out.1 HJJ.out HLN.out 2 h2
                have H2 := Aside0.mk h2
                clear h2
                go_still_tail 10, (by kernel_rfl)
                change wpList _ _ _ _ _ W.drew
                obtain ⟨W2, hW2⟩ : ∃ W_, W.drew = W_ := ⟨_, rfl⟩
                have HL3 := @id (W.drew.heap[bl]? = _) HL2.out
                have HM3 := @id (W.drew.heap[bm]? = _) HM2.out
                have HS3 := @id (W.drew.heap[bm + 1]? = _) HS2.out
                have HB3 := below_drew1 HB2.out
                have HO3 := Kd.R_drew HO2.out
                have HV3 := Kd.R_drew HV2.out
                rw [hW2] at HL3 HM3 HS3 HB3 HO3 HV3
                rw [hW2]
                clear hW2 hm0 hm1 hm2 hc2 hfr
                have hfr := blk_frozen HM3
                have hcell : W2.cell? ⟨bm, 4, none⟩ = some (.int .i64 (cntJ cs 2 j)) := (blk_cell HM3 4).trans rfl
                have HL4 := Aside0.mk HL3
                have HM4 := Aside0.mk HM3
                have HS4 := Aside0.mk HS3
                have HB4 := Aside0.mk HB3
                have HO4 := Aside0.mk HO3
                have HV4 := Aside0.mk HV3
                clear HL3 HM3 HS3 HB3 HO3 HV3
                go_wp2
                go_roundw
                case rel =>
                  refine ⟨j + 1, by first | rfl | (rw [hw1]) | (simp [hw1]), ⟨by have := HJ.out; omega, by have := HJJ.out; omega⟩, ⟨below_set HB4.out HGM.out⟩, ⟨blk_put HM4.out 4 _ ?_⟩, ⟨set_old HS4.out (by show bm + 1 ≠ bm; omega) _⟩, ⟨?_⟩, ⟨?_⟩, ⟨?_⟩⟩
                  · unfold row1
                    rw [cnt_stay cs j HJ.out.1 HJJ.out 1 (by rw [H2.out]; decide), cnt_stay cs j HJ.out.1 HJJ.out 3 (by rw [H2.out]; decide)]
                    rfl
                  · unfold lastA
                    rw [if_neg (by have := HJ.out.1; omega), Int.add_sub_cancel]
                    exact set_old HL4.out (Ne.symm HN.out) _
                  · exact Kd.R_mono (Kd.R_far (p := ⟨bm, 4, none⟩) (Kd.R_far1 HO4.out rfl (Kd.R_ne HO4.out HM4.out (by decide))) (fun _ hk => hk.2) _) (fun _ _ => trivial)
                  · exact Kd.R_mono (Kd.R_far (p := ⟨bm, 4, none⟩) (Kd.R_far1 HV4.out rfl (Kd.R_ne HV4.out HM4.out (by decide))) (fun _ hk => hk.2) _) (fun _ hk => hk.1)
                case measure =>
                  have h3 := HJJ.out
                  have h4 := HJ.out
                  simp [intOf, hw1]
                  omega
              · have hsub : IntKind.i64.wrap ((rd_T30 cs j).f2 - 1) = 2 := by rw [h2]; rfl
                have hsum := cnt_next cs j HJ.out.1 HJJ.out HLN.out 3 h2
                have H2 := Aside0.mk h2
                clear h2
                go_still_tail 10, (by kernel_rfl)
                change wpList _ _ _ _ _ W.drew
                obtain ⟨W2, hW2⟩ : ∃ W_, W.drew = W_ := ⟨_, rfl⟩
                have HL3 := @id (W.drew.heap[bl]? = _) HL2.out
                have HM3 := @id (W.drew.heap[bm]? = _) HM2.out
                have HS3 := @id (W.drew.heap[bm + 1]? = _) HS2.out
                have HB3 := below_drew1 HB2.out
                have HO3 := Kd.R_drew HO2.out
                have HV3 := Kd.R_drew HV2.out
                rw [hW2] at HL3 HM3 HS3 HB3 HO3 HV3
                rw [hW2]
                clear hW2 hm0 hm1 hm2 hc2 hfr
                have hfr := blk_frozen HM3
                have hcell : W2.cell? ⟨bm, 5, none⟩ = some (.int .i64 (cntJ cs 3 j)) := (blk_cell HM3 5).trans rfl
                have HL4 := Aside0.mk HL3
                have HM4 := Aside0.mk HM3
                have HS4 := Aside0.mk HS3
                have HB4 := Aside0.mk HB3
                have HO4 := Aside0.mk HO3
                have HV4 := Aside0.mk HV3
                clear HL3 HM3 HS3 HB3 HO3 HV3
                go_wp2
                go_roundw
                case rel =>
                  refine ⟨j + 1, by first | rfl | (rw [hw1]) | (simp [hw1]), ⟨by have := HJ.out; omega, by have := HJJ.out; omega⟩, ⟨below_set HB4.out HGM.out⟩, ⟨blk_put HM4.out 5 _ ?_⟩, ⟨set_old HS4.out (by show bm + 1 ≠ bm; omega) _⟩, ⟨?_⟩, ⟨?_⟩, ⟨?_⟩⟩
                  · unfold row1
                    rw [cnt_stay cs j HJ.out.1 HJJ.out 1 (by rw [H2.out]; decide), cnt_stay cs j HJ.out.1 HJJ.out 2 (by rw [H2.out]; decide)]
                    rfl
                  · unfold lastA
                    rw [if_neg (by have := HJ.out.1; omega), Int.add_sub_cancel]
                    exact set_old HL4.out (Ne.symm HN.out) _
                  · exact Kd.R_mono (Kd.R_far (p := ⟨bm, 5, none⟩) (Kd.R_far1 HO4.out rfl (Kd.R_ne HO4.out HM4.out (by decide))) (fun _ hk => hk.2) _) (fun _ _ => trivial)
                  · exact Kd.R_mono (Kd.R_far (p := ⟨bm, 5, none⟩) (Kd.R_far1 HV4.out rfl (Kd.R_ne HV4.out HM4.out (by decide))) (fun _ hk => hk.2) _) (fun _ hk => hk.1)
                case measure =>
                  have h3 := HJJ.out
                  have h4 := HJ.out
                  simp [intOf, hw1]
                  omega
          · have qj : decide (j < (cs.length : Int)) = false := decide_eq_false hj
            have hje : j = (cs.length : Int) := by have := HJ.out.2; omega
            clear hj
            go_wp2
            go_roundw
            case rel =>
              refine ⟨1 + 1, rfl, ⟨by omega, by omega⟩, HB, ⟨?_⟩, HS, HO⟩
              rw [hje] at HM
              rw [show manyA (cntV l0) (cntV y143) (1 + 1) = row1 (cntV l0) cs (cs.length : Int) from by rw [← HCS.out]; exact fin_1 _ _]
              exact HM.out
            case measure => simp [intOf]
      · obtain rfl : x = 2 := by have := HX.out; omega
        clear hx0 hx1
        have e6 : manyA (cntV l0) (cntV y143) 2 = #[.int .i64 (cntV l0 0), .int .i64 (cntV l0 1), .int .i64 (cntV l0 2), .int .i64 (cntV l0 0), .int .i64 (cntV l0 1), .int .i64 (cntV l0 2)] := by
          unfold manyA
          rw [if_neg (by decide), if_neg (by decide), HCT.out 0, HCT.out 1, HCT.out 2]
        rw [e6] at HM
        have hm0 := (blk_cell HM.out 0).trans (show _ = some (Value.int .i64 (cntV l0 0)) from rfl)
        have hm1 := (blk_cell HM.out 1).trans (show _ = some (Value.int .i64 (cntV l0 1)) from rfl)
        have hm2 := (blk_cell HM.out 2).trans (show _ = some (Value.int .i64 (cntV l0 2)) from rfl)
        have hm3 := (blk_cell HM.out 3).trans (show _ = some (Value.int .i64 (cntV l0 0)) from rfl)
        have hm4 := (blk_cell HM.out 4).trans (show _ = some (Value.int .i64 (cntV l0 1)) from rfl)
        have hm5 := (blk_cell HM.out 5).trans (show _ = some (Value.int .i64 (cntV l0 2)) from rfl)
        have heq := fun (u_ : World) => arr_eq (cntV l0 0) (cntV l0 1) (cntV l0 2) u_
        go_wp2
        go_ret
        exact ⟨by first | rfl | simp, HB.out⟩
end Go.Proofs.Ytlfkdbfbkgcgnaa.All
