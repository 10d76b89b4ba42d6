/-
  Till when a calendar's rules keep a moment. No condition but that the table and the keepers lie as their rows say, and that their numbers are in bounds.
-/
import Derived.Test.YtonlbeonblpblaaAuto
import Derived.Test.YtonlbeonblpblaaSortI
namespace Go.Proofs.Ytonlbeonblpblaa.All
open Go.RowKit Go.Proofs.YtonlbeonblpblaaW.PrintWords Go.Proofs.YtonlbeonblpblaaW.PrintLast Go.Proofs.YtonlbeonblpblaaW.PrintMore Go.Proofs.Ytonlbeonblpblaa.Wd
set_option linter.unusedVariables false
set_option linter.unusedSimpArgs false
private theorem ym (motive : Option Value → Sort _) (h1 : (b : Bool) → motive (some (.bool b))) (h2 : (x : Option Value) → motive x) : Go.yielded.match_1 motive (some undef) h1 h2 = h2 (some undef) := rfl
attribute [local go_sem, local simp] ym
/-- Does a rule keep a moment? -/
def keepM (M : List It) (num : Int) (r : Ru) : Bool := if r.k = 1 then true else if r.k = 2 then closesM M num r.l else quietM M num r.l
def spanN (N : Int × Bool) (r : Ru) : Int := if N.2 = true then min r.f N.1 else r.f
def raw (M : List It) (num : Int) (N : Int × Bool) (rs : List Ru) : List Int := (rs.filter (keepM M num)).map fun r => minM M num + spanN N r
def minsF (M : List It) (num : Int) (N : Int × Bool) (rs : List Ru) : List Int := if hit M num = true then Lib.compact ((raw M num N rs).mergeSort fun x y => decide (x ≤ y)) else []
theorem raw_len (M : List It) (num : Int) (N : Int × Bool) (rs : List Ru) : (raw M num N rs).length ≤ rs.length := by
  unfold raw
  rw [List.length_map]
  exact List.length_filter_le _ _
theorem raw_snoc (M : List It) (num : Int) (N : Int × Bool) (rs : List Ru) (r : Ru) : raw M num N (rs ++ [r]) = raw M num N rs ++ if keepM M num r = true then [minM M num + spanN N r] else [] := by
  unfold raw
  rw [List.filter_append, List.map_append]
  cases h : keepM M num r <;> simp [h]
theorem kvs_get : ∀ (ks : List (Ru × Nat)) (j : Nat) (h : j < ks.length), (kvs ks)[j * 2]? = some (kfun ks[j].1 ks[j].2) ∧ (kvs ks)[j * 2 + 1]? = some (.int .i64 ks[j].1.f)
  | p :: ks, 0, _ => ⟨rfl, rfl⟩
  | p :: ks, j + 1, h => by
    have e1 : (j + 1) * 2 = j * 2 + 2 := by omega
    show (kfun p.1 p.2 :: Value.int .i64 p.1.f :: kvs ks)[(j + 1) * 2]? = _ ∧ (kfun p.1 p.2 :: Value.int .i64 p.1.f :: kvs ks)[(j + 1) * 2 + 1]? = _
    rw [e1, List.getElem?_cons_succ, List.getElem?_cons_succ, show j * 2 + 2 + 1 = (j * 2 + 1) + 2 by omega, List.getElem?_cons_succ, List.getElem?_cons_succ]
    exact kvs_get ks j (by simpa using h)
set_option maxRecDepth 100000 in
theorem each_calls (p n : Value) (w : World) : Calls Try.prog 30 #[p, n] w fun e w' => e = .returned (.bool true) ∧ w = w' := by
  go_enter Try.func30, Try.ntmps30
  go_wp2
  go_ret
  exact ⟨rfl, rfl⟩
set_option maxRecDepth 100000 in
theorem window_calls {M : List It} (g : Good M) {A : Option Addr} {base b c bx : Nat} {w : World} {r : Ru} (h : TAt w base b A c M) (hb : Bo w bx r) (num : Int) :
    Calls Try.prog 31 #[.pointer (some ⟨b, 0, none⟩), .int .u64 num, .pointer (some ⟨bx, 0, none⟩)] w fun e w' => e = .returned (.bool (closesM M num r.l)) ∧ Below w.heap.size w w' := by
  have CC := Lib.hid (closes_calls g h num r.l)
  obtain ⟨b0, b1, b2⟩ := hb.cells
  clear h hb
  go_enter Try.func31, Try.ntmps31
  go_wp2_with (go_at_call 32; refine CC.out.mono ?_; rintro e w3 ⟨rfl, hb3⟩; replace hb3 := Lib.hid hb3)
  go_ret
  exact ⟨rfl, hb3.out⟩
set_option maxRecDepth 100000 in
theorem gap_calls {M : List It} (g : Good M) {A : Option Addr} {base b c bx : Nat} {w : World} {r : Ru} (h : TAt w base b A c M) (hb : Bo w bx r) (num : Int) :
    Calls Try.prog 33 #[.pointer (some ⟨b, 0, none⟩), .int .u64 num, .pointer (some ⟨bx, 0, none⟩)] w fun e w' => e = .returned (.bool (quietM M num r.l)) ∧ Below w.heap.size w w' := by
  have CC := Lib.hid (quiet_calls g h num r.l)
  obtain ⟨b0, b1, b2⟩ := hb.cells
  clear h hb
  go_enter Try.func33, Try.ntmps33
  go_wp2_with (go_at_call 34; refine CC.out.mono ?_; rintro e w3 ⟨rfl, hb3⟩; replace hb3 := Lib.hid hb3)
  go_ret
  exact ⟨rfl, hb3.out⟩
/-- What a round keeps. -/
structure MI (w wr : World) (Ak : Option Addr) (nk ck : Nat) (N : Int × Bool) (v : Value) (xs : List Int) : Prop where
  own : wr.ownsRow w.heap.size 3 1 v xs.length (xs.map (Value.int .i64))
  box : wr.heap[w.heap.size]? = some (.cells #[.slice Ak nk ck, .int .i64 N.1, .bool N.2] 32)
  bel : Below w.heap.size w wr
theorem MI.below {w wr w2 : World} {Ak : Option Addr} {nk ck : Nat} {N : Int × Bool} {v : Value} {xs : List Int} (h : MI w wr Ak nk ck N v xs) (hb : Below wr.heap.size wr w2) : MI w w2 Ak nk ck N v xs := ⟨own_below h.own hb, (hb.block _ (lt_heap h.box)).trans h.box, h.bel.trans (hb.mono h.bel.size)⟩
theorem MI.cells {w wr : World} {Ak : Option Addr} {nk ck : Nat} {N : Int × Bool} {v : Value} {xs : List Int} (h : MI w wr Ak nk ck N v xs) : wr.cell? { block := w.heap.size, off := 0 } = some (.slice Ak nk ck) ∧ wr.cell? { block := w.heap.size, off := 1 } = some (.int .i64 N.1) ∧ wr.cell? { block := w.heap.size, off := 2 } = some (.bool N.2) :=
  ⟨cell_of_row wr _ 0 _ _ (0, 0) h.box, cell_of_row wr _ 1 _ _ (0, 0) h.box, cell_of_row wr _ 2 _ _ (0, 0) h.box⟩
theorem comp_le (zs : List Int) : (Lib.compact zs).length ≤ zs.length := by
  have : ∀ (d : Array Int) m, (Lib.compactUpTo d m).length ≤ m := fun d m => by
    induction m with
    | zero => simp [Lib.compactUpTo]
    | succ m ih =>
      rw [Lib.compactUpTo_succ, List.length_append]
      split
      · simpa using ih
      · simp; omega
  exact this _ _
theorem own_size1 {w : World} {base : Nat} {e : TypeId} {size n : Nat} {v : Value} {xs : List Value} (h : w.ownsRow base e size v n xs) : ∀ g, v.ownBlock = some g → ∃ cur, w.heap[g]? = some (.cells cur e) := own_size h
theorem mi_app {w w5 w6 : World} {Ak A9 : Option Addr} {nk ck c9 : Nat} {N : Int × Bool} {v : Value} {xs : List Int} {s : Int} {o : Obj} (h : MI w w5 Ak nk ck N (.slice A9 xs.length c9) xs) (ho : w6.ownsRow w.heap.size 3 1 v (xs.length + 1) (xs.map (Value.int .i64) ++ [.int .i64 s])) (hg : (w5.alloc o).grownBy w6 (Value.slice A9 xs.length c9).ownBlock) : MI w w6 Ak nk ck N v (xs ++ [s]) := by
  have hb0 : Below w5.heap.size w5 (w5.alloc o) := below_alloc (Below.refl _ _) o
  have h1 := h.below hb0
  refine ⟨?_, ?_, h1.bel.grown hg h1.bel.size (fun k e => own_base h1.own k e)⟩
  · rw [List.length_append, List.length_singleton, List.map_append]
    exact ho
  · refine (hg.block _ (lt_heap h1.box) (fun e => ?_)).trans h1.box
    obtain ⟨cur, hc⟩ := own_size h1.own _ e.symm
    exact heap_ne h1.box hc (by simp) rfl
def MinsPost (M : List It) (num : Int) (N : Int × Bool) (rs : List Ru) (w : World) (e : Ending) (w' : World) : Prop := ∃ v, e = .returned v ∧ w'.ownsRow w.heap.size 3 1 v (minsF M num N rs).length ((minsF M num N rs).map (Value.int .i64)) ∧ Below w.heap.size w w'
theorem int_info : (Try.prog.info? 3).map (fun i => (i.zero, i.size, i.bytes)) = some (some (.int .i64 0), 1, 8) := by kernel_rfl
set_option maxRecDepth 100000 in
set_option maxHeartbeats 4000000 in
theorem mins_calls {M : List It} (g : Good M) {A Ak : Option Addr} {base kb b c ck : Nat} {w : World} {ks : List (Ru × Nat)} {N : Int × Bool} (h : TAt w base b A c M) (hk : KAt w kb Ak ck ks) (hl : ks.length ≤ 16) (hf : ∀ p ∈ ks, 0 ≤ p.1.f ∧ p.1.f ≤ 1073741824) (hN : 0 ≤ N.1 ∧ N.1 ≤ 1073741824) (num : Int) :
    Calls Try.prog 18 #[.agg #[.slice Ak ks.length ck, .int .i64 N.1, .bool N.2], .pointer (some ⟨b, 0, none⟩), .int .u64 num] w (MinsPost M num N (ks.map (·.1)) w) := by
  obtain ⟨i0, hi, hz0, hz1, hz2⟩ := info_parts int_info
  have hi' := Lib.hid hi
  clear hi
  obtain ⟨N1, N2⟩ := N
  have hbox : Hid (((w.alloc (.cells #[.slice Ak ks.length ck, .int .i64 N1, .bool N2] 32))).heap[w.heap.size]? = some (.cells #[.slice Ak ks.length ck, .int .i64 N1, .bool N2] 32)) := Lib.hid (heap_alloc_new w _)
  have MC := min_calls g.up (h.below (below_alloc (Below.refl _ _) (.cells #[.slice Ak ks.length ck, .int .i64 N1, .bool N2] 32))) g.len num
  cases hh : hit M num with
  | false =>
    rw [hh] at MC
    have e1 := Lib.hid (show minsF M num (N1, N2) (ks.map (·.1)) = [] by unfold minsF; rw [hh]; rfl)
    replace MC := Lib.hid MC
    clear hh h hk hf
    go_enter Try.func18, Try.ntmps18
    go_wp2_with (go_at_call 17; refine MC.out.mono ?_; rintro e w3 ⟨rfl, hb3⟩; replace hb3 := Lib.hid hb3)
    go_ret
    exact ⟨.slice none 0 0, rfl, by rw [e1.out]; exact ⟨rfl, .inl ⟨rfl, rfl⟩⟩, (below_alloc (Below.refl _ _) _).trans (hb3.out.mono (by simp))⟩
  | true =>
    rw [hh] at MC
    have e1 := Lib.hid (show minsF M num (N1, N2) (ks.map (·.1)) = Lib.compact ((raw M num (N1, N2) (ks.map (·.1))).mergeSort fun x y => decide (x ≤ y)) by unfold minsF; rw [if_pos hh])
    obtain ⟨m0, m1⟩ := minM_rng g num
    replace MC := Lib.hid MC
    clear hh
    have H := Lib.hid h
    have HK := Lib.hid hk
    replace hf := Lib.hid hf
    clear h hk
    go_enter Try.func18, Try.ntmps18
    go_upto_region 5 with (go_at_call 17; refine MC.out.mono ?_; rintro e w3 ⟨rfl, hb3⟩; have HI := Lib.hid (show MI w w3 Ak ks.length ck (N1, N2) (.slice none 0 0) (raw M num (N1, N2) ((ks.take 0).map (·.1))) from ⟨⟨rfl, .inl ⟨rfl, rfl⟩⟩, (hb3.block _ (lt_heap hbox.out)).trans hbox.out, (below_alloc (Below.refl _ _) _).trans (hb3.mono (by simp))⟩); clear hb3)
    obtain ⟨x0, x1, x2⟩ := HI.out.cells
    go_wp2
    go_loopw [9, 24] (fun v9 v24 wr => ∃ j : Nat, v24 = .int .i64 j ∧ j ≤ ks.length ∧ Hid (MI w wr Ak ks.length ck (N1, N2) v9 (raw M num (N1, N2) ((ks.take j).map (·.1))))) (fun _ v24 _ => ks.length - (intOf v24).toNat)
    case atStart => exact ⟨0, rfl, Nat.zero_le _, HI⟩
    case round =>
      clear HI x0 x1 x2
      obtain ⟨j, rfl, hj, HI⟩ := hrel
      obtain ⟨A9, c9, rfl, hc9⟩ := own_slice_cap HI.out.own
      by_cases hlt : j < ks.length
      · have HKw := Lib.hid (HK.out.below (HI.out.bel.mono (Nat.le_refl _)))
        obtain ⟨q, cur, rfl, _, hqh, _, _, hqc⟩ := own_row HKw.out.own (by omega)
        have k0 := hqc _ _ (kvs_get ks j hlt).1
        have k1 := hqc _ _ (kvs_get ks j hlt).2
        have hbx : Bo wr ks[j].2 ks[j].1 := HKw.out.bx _ (List.getElem_mem hlt)
        have hfj := hf.out _ (List.getElem_mem hlt)
        have hraw := raw_snoc M num (N1, N2) ((ks.take j).map (·.1)) ks[j].1
        have htk : (ks.take (j + 1)).map (·.1) = (ks.take j).map (·.1) ++ [ks[j].1] := by rw [List.take_succ_eq_append_getElem hlt, List.map_append]; rfl
        rw [← htk] at hraw
        have hlr : (raw M num (N1, N2) ((ks.take j).map (·.1))).length ≤ 16 := Nat.le_trans (raw_len _ _ _ _) (by rw [List.length_map, List.length_take]; omega)
        have hj1 := Lib.hid (show j + 1 ≤ ks.length by omega)
        have hme : ks.length - (j + 1) < ks.length - j := by omega
        obtain ⟨ys, hys⟩ : ∃ ys, raw M num (N1, N2) ((ks.take (j + 1)).map (·.1)) = ys := ⟨_, rfl⟩
        rw [hys] at hraw
        have HYS := Lib.hid hys
        clear hqc hqh htk hys
        generalize ks[j] = p at *
        obtain ⟨⟨rk, rl, rf⟩, bx⟩ := p
        dsimp only at k0 k1 hbx hfj
        obtain ⟨hf0, hf1⟩ := hfj
        generalize raw M num (N1, N2) ((ks.take j).map (·.1)) = xs at *
        replace hraw := Lib.hid hraw
        have hx1 := Lib.hid (show xs.length + 1 ≤ maxLen ∧ (xs.length + 1) * 8 ≤ 140737488355328 by unfold maxLen; omega)
        have hwl := HI.out.bel.size
        replace hbx := Lib.hid hbx
        by_cases hk1 : rk = 1
        · subst hk1
          rw [show kfun ⟨1, rl, rf⟩ bx = (.func (.func 30) #[] #[]) from rfl] at k0
          have HB4 := Lib.hid (show Below wr.heap.size wr (wr.alloc (.cells #[(.func (.func 30) #[] #[]), .int .i64 rf] 75)) from below_alloc (Below.refl _ _) _)
          have HY0 : Hid ((wr.alloc (.cells #[(.func (.func 30) #[] #[]), .int .i64 rf] 75)).heap[wr.heap.size]? = some (.cells #[(.func (.func 30) #[] #[]), .int .i64 rf] 75)) := Lib.hid (heap_alloc_new wr _)
          cases hkp : keepM M num ⟨1, rl, rf⟩ with
          | true =>
            rw [hkp] at hraw
            have CC := Lib.hid (fun (p n : Value) (w : World) => (each_calls p n w : Calls Try.prog 30 #[p, n] w _))
            clear hkp
            cases N2 with
            | false =>
              have HY := Lib.hid (show ys = xs ++ [minM M num + rf] by rw [hraw.out]; simp [spanN])
              have hbz := Lib.hid (show w.heap.size ≤ wr.heap.size from hwl)
              go_wp2_with (first
                | (go_at_call 30; refine (CC.out _ _ _).mono ?_; rintro e w5 ⟨rfl, hw5⟩; have hb5 : Below (wr.alloc (.cells #[(.func (.func 30) #[] #[]), .int .i64 rf] 75)).heap.size (wr.alloc (.cells #[(.func (.func 30) #[] #[]), .int .i64 rf] 75)) w5 := hw5 ▸ Below.refl _ _; clear hw5; replace HI := Lib.hid (HI.out.below (HB4.out.trans (hb5.mono HB4.out.size))); obtain ⟨x0, x1, x2⟩ := HI.out.cells; dsimp only at x1 x2; have y1 := cell_of_row w5 wr.heap.size 1 _ _ (0, 0) ((hb5.block _ (lt_heap HY0.out)).trans HY0.out); replace y1 : w5.cell? { block := wr.heap.size, off := 1 } = some (.int .i64 rf) := y1; replace HB4 := Lib.hid (HB4.out.trans (hb5.mono HB4.out.size)); clear hb5)
                | (at_builtin; refine wpList_append_any _ rfl _ _ 44 rfl w.heap.size 3 i0 _ 1 8 Try.underlying44 hi'.out hz0 hz1 hz2 rfl (by decide) _ _ _ rfl (World.ownsRow.alloc HI.out.own (.cells #[.int .i64 (minM M num + rf)] 3)) _ _ 1 1 _ rfl (reads_one (heap_alloc_new _ (.cells #[.int .i64 (minM M num + rf)] 3))) (by simp [Value.oneCell']) hx1.out.1 hx1.out.2 (Nat.le_trans HI.out.bel.size (by simp)) ?_; intro v6 w6 ho6 hg6 ha6; have HE := Lib.hid (mi_app HI.out ho6 hg6); clear ho6 hg6 ha6))
              go_roundw
              case rel => exact ⟨j + 1, by go_num, hj1.out, by rw [HYS.out, HY.out]; exact HE⟩
              case measure => simp [intOf]; omega
            | true =>
              obtain ⟨hN0, hN1⟩ := hN
              try dsimp only at hN0 hN1
              by_cases hmn : rf ≤ N1
              · have hmin : min rf N1 = rf := by omega
                have hmd : decide (rf ≤ N1) = true := decide_eq_true hmn
                have HY := Lib.hid (show ys = xs ++ [minM M num + rf] by rw [hraw.out]; simp [spanN, hmin])
                have hbz := Lib.hid (show w.heap.size ≤ wr.heap.size from hwl)
                go_wp2_with (first
                  | (go_at_call 30; refine (CC.out _ _ _).mono ?_; rintro e w5 ⟨rfl, hw5⟩; have hb5 : Below (wr.alloc (.cells #[(.func (.func 30) #[] #[]), .int .i64 rf] 75)).heap.size (wr.alloc (.cells #[(.func (.func 30) #[] #[]), .int .i64 rf] 75)) w5 := hw5 ▸ Below.refl _ _; clear hw5; replace HI := Lib.hid (HI.out.below (HB4.out.trans (hb5.mono HB4.out.size))); obtain ⟨x0, x1, x2⟩ := HI.out.cells; dsimp only at x1 x2; have y1 := cell_of_row w5 wr.heap.size 1 _ _ (0, 0) ((hb5.block _ (lt_heap HY0.out)).trans HY0.out); replace y1 : w5.cell? { block := wr.heap.size, off := 1 } = some (.int .i64 rf) := y1; replace HB4 := Lib.hid (HB4.out.trans (hb5.mono HB4.out.size)); clear hb5)
                  | (at_builtin; refine wpList_append_any _ rfl _ _ 44 rfl w.heap.size 3 i0 _ 1 8 Try.underlying44 hi'.out hz0 hz1 hz2 rfl (by decide) _ _ _ rfl (World.ownsRow.alloc HI.out.own (.cells #[.int .i64 (minM M num + rf)] 3)) _ _ 1 1 _ rfl (reads_one (heap_alloc_new _ (.cells #[.int .i64 (minM M num + rf)] 3))) (by simp [Value.oneCell']) hx1.out.1 hx1.out.2 (Nat.le_trans HI.out.bel.size (by simp)) ?_; intro v6 w6 ho6 hg6 ha6; have HE := Lib.hid (mi_app HI.out ho6 hg6); clear ho6 hg6 ha6))
                go_roundw
                case rel => exact ⟨j + 1, by go_num, hj1.out, by rw [HYS.out, HY.out]; exact HE⟩
                case measure => simp [intOf]; omega
              · have hmin : min rf N1 = N1 := by omega
                have hmd : decide (rf ≤ N1) = false := decide_eq_false hmn
                have HY := Lib.hid (show ys = xs ++ [minM M num + N1] by rw [hraw.out]; simp [spanN, hmin])
                have hbz := Lib.hid (show w.heap.size ≤ wr.heap.size from hwl)
                go_wp2_with (first
                  | (go_at_call 30; refine (CC.out _ _ _).mono ?_; rintro e w5 ⟨rfl, hw5⟩; have hb5 : Below (wr.alloc (.cells #[(.func (.func 30) #[] #[]), .int .i64 rf] 75)).heap.size (wr.alloc (.cells #[(.func (.func 30) #[] #[]), .int .i64 rf] 75)) w5 := hw5 ▸ Below.refl _ _; clear hw5; replace HI := Lib.hid (HI.out.below (HB4.out.trans (hb5.mono HB4.out.size))); obtain ⟨x0, x1, x2⟩ := HI.out.cells; dsimp only at x1 x2; have y1 := cell_of_row w5 wr.heap.size 1 _ _ (0, 0) ((hb5.block _ (lt_heap HY0.out)).trans HY0.out); replace y1 : w5.cell? { block := wr.heap.size, off := 1 } = some (.int .i64 rf) := y1; replace HB4 := Lib.hid (HB4.out.trans (hb5.mono HB4.out.size)); clear hb5)
                  | (at_builtin; refine wpList_append_any _ rfl _ _ 44 rfl w.heap.size 3 i0 _ 1 8 Try.underlying44 hi'.out hz0 hz1 hz2 rfl (by decide) _ _ _ rfl (World.ownsRow.alloc HI.out.own (.cells #[.int .i64 (minM M num + N1)] 3)) _ _ 1 1 _ rfl (reads_one (heap_alloc_new _ (.cells #[.int .i64 (minM M num + N1)] 3))) (by simp [Value.oneCell']) hx1.out.1 hx1.out.2 (Nat.le_trans HI.out.bel.size (by simp)) ?_; intro v6 w6 ho6 hg6 ha6; have HE := Lib.hid (mi_app HI.out ho6 hg6); clear ho6 hg6 ha6))
                go_roundw
                case rel => exact ⟨j + 1, by go_num, hj1.out, by rw [HYS.out, HY.out]; exact HE⟩
                case measure => simp [intOf]; omega
          | false => cases hkp
        · by_cases hk2 : rk = 2
          · subst hk2
            rw [show kfun ⟨2, rl, rf⟩ bx = (.func (.func 31) #[] #[.pointer (some ⟨bx, 0, none⟩)]) from rfl] at k0
            have HB4 := Lib.hid (show Below wr.heap.size wr (wr.alloc (.cells #[(.func (.func 31) #[] #[.pointer (some ⟨bx, 0, none⟩)]), .int .i64 rf] 75)) from below_alloc (Below.refl _ _) _)
            have HY0 : Hid ((wr.alloc (.cells #[(.func (.func 31) #[] #[.pointer (some ⟨bx, 0, none⟩)]), .int .i64 rf] 75)).heap[wr.heap.size]? = some (.cells #[(.func (.func 31) #[] #[.pointer (some ⟨bx, 0, none⟩)]), .int .i64 rf] 75)) := Lib.hid (heap_alloc_new wr _)
            cases hkp : keepM M num ⟨2, rl, rf⟩ with
            | true =>
              rw [hkp] at hraw
              have CC := window_calls g (H.out.below ((HI.out.bel.mono (Nat.le_refl _)).trans (HB4.out.mono HI.out.bel.size))) (r := ⟨2, rl, rf⟩) (show Bo (wr.alloc (.cells #[(.func (.func 31) #[] #[.pointer (some ⟨bx, 0, none⟩)]), .int .i64 rf] 75)) bx ⟨2, rl, rf⟩ from (HB4.out.block _ (lt_heap hbx.out)).trans hbx.out) num
              rw [show closesM M num rl = true from hkp] at CC
              replace CC := Lib.hid CC
              clear hkp
              cases N2 with
              | false =>
                have HY := Lib.hid (show ys = xs ++ [minM M num + rf] by rw [hraw.out]; simp [spanN])
                have hbz := Lib.hid (show w.heap.size ≤ wr.heap.size from hwl)
                go_wp2_with (first
                  | (go_at_call 31; refine (CC.out).mono ?_; rintro e w5 ⟨rfl, hb5⟩; replace HI := Lib.hid (HI.out.below (HB4.out.trans (hb5.mono HB4.out.size))); obtain ⟨x0, x1, x2⟩ := HI.out.cells; dsimp only at x1 x2; have y1 := cell_of_row w5 wr.heap.size 1 _ _ (0, 0) ((hb5.block _ (lt_heap HY0.out)).trans HY0.out); replace y1 : w5.cell? { block := wr.heap.size, off := 1 } = some (.int .i64 rf) := y1; replace HB4 := Lib.hid (HB4.out.trans (hb5.mono HB4.out.size)); clear hb5)
                  | (at_builtin; refine wpList_append_any _ rfl _ _ 44 rfl w.heap.size 3 i0 _ 1 8 Try.underlying44 hi'.out hz0 hz1 hz2 rfl (by decide) _ _ _ rfl (World.ownsRow.alloc HI.out.own (.cells #[.int .i64 (minM M num + rf)] 3)) _ _ 1 1 _ rfl (reads_one (heap_alloc_new _ (.cells #[.int .i64 (minM M num + rf)] 3))) (by simp [Value.oneCell']) hx1.out.1 hx1.out.2 (Nat.le_trans HI.out.bel.size (by simp)) ?_; intro v6 w6 ho6 hg6 ha6; have HE := Lib.hid (mi_app HI.out ho6 hg6); clear ho6 hg6 ha6))
                go_roundw
                case rel => exact ⟨j + 1, by go_num, hj1.out, by rw [HYS.out, HY.out]; exact HE⟩
                case measure => simp [intOf]; omega
              | true =>
                obtain ⟨hN0, hN1⟩ := hN
                try dsimp only at hN0 hN1
                by_cases hmn : rf ≤ N1
                · have hmin : min rf N1 = rf := by omega
                  have hmd : decide (rf ≤ N1) = true := decide_eq_true hmn
                  have HY := Lib.hid (show ys = xs ++ [minM M num + rf] by rw [hraw.out]; simp [spanN, hmin])
                  have hbz := Lib.hid (show w.heap.size ≤ wr.heap.size from hwl)
                  go_wp2_with (first
                    | (go_at_call 31; refine (CC.out).mono ?_; rintro e w5 ⟨rfl, hb5⟩; replace HI := Lib.hid (HI.out.below (HB4.out.trans (hb5.mono HB4.out.size))); obtain ⟨x0, x1, x2⟩ := HI.out.cells; dsimp only at x1 x2; have y1 := cell_of_row w5 wr.heap.size 1 _ _ (0, 0) ((hb5.block _ (lt_heap HY0.out)).trans HY0.out); replace y1 : w5.cell? { block := wr.heap.size, off := 1 } = some (.int .i64 rf) := y1; replace HB4 := Lib.hid (HB4.out.trans (hb5.mono HB4.out.size)); clear hb5)
                    | (at_builtin; refine wpList_append_any _ rfl _ _ 44 rfl w.heap.size 3 i0 _ 1 8 Try.underlying44 hi'.out hz0 hz1 hz2 rfl (by decide) _ _ _ rfl (World.ownsRow.alloc HI.out.own (.cells #[.int .i64 (minM M num + rf)] 3)) _ _ 1 1 _ rfl (reads_one (heap_alloc_new _ (.cells #[.int .i64 (minM M num + rf)] 3))) (by simp [Value.oneCell']) hx1.out.1 hx1.out.2 (Nat.le_trans HI.out.bel.size (by simp)) ?_; intro v6 w6 ho6 hg6 ha6; have HE := Lib.hid (mi_app HI.out ho6 hg6); clear ho6 hg6 ha6))
                  go_roundw
                  case rel => exact ⟨j + 1, by go_num, hj1.out, by rw [HYS.out, HY.out]; exact HE⟩
                  case measure => simp [intOf]; omega
                · have hmin : min rf N1 = N1 := by omega
                  have hmd : decide (rf ≤ N1) = false := decide_eq_false hmn
                  have HY := Lib.hid (show ys = xs ++ [minM M num + N1] by rw [hraw.out]; simp [spanN, hmin])
                  have hbz := Lib.hid (show w.heap.size ≤ wr.heap.size from hwl)
                  go_wp2_with (first
                    | (go_at_call 31; refine (CC.out).mono ?_; rintro e w5 ⟨rfl, hb5⟩; replace HI := Lib.hid (HI.out.below (HB4.out.trans (hb5.mono HB4.out.size))); obtain ⟨x0, x1, x2⟩ := HI.out.cells; dsimp only at x1 x2; have y1 := cell_of_row w5 wr.heap.size 1 _ _ (0, 0) ((hb5.block _ (lt_heap HY0.out)).trans HY0.out); replace y1 : w5.cell? { block := wr.heap.size, off := 1 } = some (.int .i64 rf) := y1; replace HB4 := Lib.hid (HB4.out.trans (hb5.mono HB4.out.size)); clear hb5)
                    | (at_builtin; refine wpList_append_any _ rfl _ _ 44 rfl w.heap.size 3 i0 _ 1 8 Try.underlying44 hi'.out hz0 hz1 hz2 rfl (by decide) _ _ _ rfl (World.ownsRow.alloc HI.out.own (.cells #[.int .i64 (minM M num + N1)] 3)) _ _ 1 1 _ rfl (reads_one (heap_alloc_new _ (.cells #[.int .i64 (minM M num + N1)] 3))) (by simp [Value.oneCell']) hx1.out.1 hx1.out.2 (Nat.le_trans HI.out.bel.size (by simp)) ?_; intro v6 w6 ho6 hg6 ha6; have HE := Lib.hid (mi_app HI.out ho6 hg6); clear ho6 hg6 ha6))
                  go_roundw
                  case rel => exact ⟨j + 1, by go_num, hj1.out, by rw [HYS.out, HY.out]; exact HE⟩
                  case measure => simp [intOf]; omega
            | false =>
              rw [hkp] at hraw
              have CC := window_calls g (H.out.below ((HI.out.bel.mono (Nat.le_refl _)).trans (HB4.out.mono HI.out.bel.size))) (r := ⟨2, rl, rf⟩) (show Bo (wr.alloc (.cells #[(.func (.func 31) #[] #[.pointer (some ⟨bx, 0, none⟩)]), .int .i64 rf] 75)) bx ⟨2, rl, rf⟩ from (HB4.out.block _ (lt_heap hbx.out)).trans hbx.out) num
              rw [show closesM M num rl = false from hkp] at CC
              replace CC := Lib.hid CC
              clear hkp
              have HY := Lib.hid (show ys = xs by rw [hraw.out]; simp)
              go_wp2_with (go_at_call 31; refine (CC.out).mono ?_; rintro e w5 ⟨rfl, hb5⟩; replace HI := Lib.hid (HI.out.below (HB4.out.trans (hb5.mono HB4.out.size))); obtain ⟨x0, x1, x2⟩ := HI.out.cells; dsimp only at x1 x2; have y1 := cell_of_row w5 wr.heap.size 1 _ _ (0, 0) ((hb5.block _ (lt_heap HY0.out)).trans HY0.out); replace y1 : w5.cell? { block := wr.heap.size, off := 1 } = some (.int .i64 rf) := y1; replace HB4 := Lib.hid (HB4.out.trans (hb5.mono HB4.out.size)); clear hb5)
              go_roundw
              case rel => exact ⟨j + 1, by go_num, hj1.out, by rw [HYS.out, HY.out]; exact HI⟩
              case measure => simp [intOf]; omega
          · skip
            rw [show kfun ⟨rk, rl, rf⟩ bx = (.func (.func 33) #[] #[.pointer (some ⟨bx, 0, none⟩)]) from by unfold kfun; rw [if_neg hk1, if_neg hk2]] at k0
            have HB4 := Lib.hid (show Below wr.heap.size wr (wr.alloc (.cells #[(.func (.func 33) #[] #[.pointer (some ⟨bx, 0, none⟩)]), .int .i64 rf] 75)) from below_alloc (Below.refl _ _) _)
            have HY0 : Hid ((wr.alloc (.cells #[(.func (.func 33) #[] #[.pointer (some ⟨bx, 0, none⟩)]), .int .i64 rf] 75)).heap[wr.heap.size]? = some (.cells #[(.func (.func 33) #[] #[.pointer (some ⟨bx, 0, none⟩)]), .int .i64 rf] 75)) := Lib.hid (heap_alloc_new wr _)
            cases hkp : keepM M num ⟨rk, rl, rf⟩ with
            | true =>
              rw [hkp] at hraw
              have CC := gap_calls g (H.out.below ((HI.out.bel.mono (Nat.le_refl _)).trans (HB4.out.mono HI.out.bel.size))) (r := ⟨rk, rl, rf⟩) (show Bo (wr.alloc (.cells #[(.func (.func 33) #[] #[.pointer (some ⟨bx, 0, none⟩)]), .int .i64 rf] 75)) bx ⟨rk, rl, rf⟩ from (HB4.out.block _ (lt_heap hbx.out)).trans hbx.out) num
              rw [show quietM M num rl = true from (by have := hkp; unfold keepM at this; rw [if_neg hk1, if_neg hk2] at this; exact this)] at CC
              replace CC := Lib.hid CC
              clear hkp
              cases N2 with
              | false =>
                have HY := Lib.hid (show ys = xs ++ [minM M num + rf] by rw [hraw.out]; simp [spanN])
                have hbz := Lib.hid (show w.heap.size ≤ wr.heap.size from hwl)
                go_wp2_with (first
                  | (go_at_call 33; refine (CC.out).mono ?_; rintro e w5 ⟨rfl, hb5⟩; replace HI := Lib.hid (HI.out.below (HB4.out.trans (hb5.mono HB4.out.size))); obtain ⟨x0, x1, x2⟩ := HI.out.cells; dsimp only at x1 x2; have y1 := cell_of_row w5 wr.heap.size 1 _ _ (0, 0) ((hb5.block _ (lt_heap HY0.out)).trans HY0.out); replace y1 : w5.cell? { block := wr.heap.size, off := 1 } = some (.int .i64 rf) := y1; replace HB4 := Lib.hid (HB4.out.trans (hb5.mono HB4.out.size)); clear hb5)
                  | (at_builtin; refine wpList_append_any _ rfl _ _ 44 rfl w.heap.size 3 i0 _ 1 8 Try.underlying44 hi'.out hz0 hz1 hz2 rfl (by decide) _ _ _ rfl (World.ownsRow.alloc HI.out.own (.cells #[.int .i64 (minM M num + rf)] 3)) _ _ 1 1 _ rfl (reads_one (heap_alloc_new _ (.cells #[.int .i64 (minM M num + rf)] 3))) (by simp [Value.oneCell']) hx1.out.1 hx1.out.2 (Nat.le_trans HI.out.bel.size (by simp)) ?_; intro v6 w6 ho6 hg6 ha6; have HE := Lib.hid (mi_app HI.out ho6 hg6); clear ho6 hg6 ha6))
                go_roundw
                case rel => exact ⟨j + 1, by go_num, hj1.out, by rw [HYS.out, HY.out]; exact HE⟩
                case measure => simp [intOf]; omega
              | true =>
                obtain ⟨hN0, hN1⟩ := hN
                try dsimp only at hN0 hN1
                by_cases hmn : rf ≤ N1
                · have hmin : min rf N1 = rf := by omega
                  have hmd : decide (rf ≤ N1) = true := decide_eq_true hmn
                  have HY := Lib.hid (show ys = xs ++ [minM M num + rf] by rw [hraw.out]; simp [spanN, hmin])
                  have hbz := Lib.hid (show w.heap.size ≤ wr.heap.size from hwl)
                  go_wp2_with (first
                    | (go_at_call 33; refine (CC.out).mono ?_; rintro e w5 ⟨rfl, hb5⟩; replace HI := Lib.hid (HI.out.below (HB4.out.trans (hb5.mono HB4.out.size))); obtain ⟨x0, x1, x2⟩ := HI.out.cells; dsimp only at x1 x2; have y1 := cell_of_row w5 wr.heap.size 1 _ _ (0, 0) ((hb5.block _ (lt_heap HY0.out)).trans HY0.out); replace y1 : w5.cell? { block := wr.heap.size, off := 1 } = some (.int .i64 rf) := y1; replace HB4 := Lib.hid (HB4.out.trans (hb5.mono HB4.out.size)); clear hb5)
                    | (at_builtin; refine wpList_append_any _ rfl _ _ 44 rfl w.heap.size 3 i0 _ 1 8 Try.underlying44 hi'.out hz0 hz1 hz2 rfl (by decide) _ _ _ rfl (World.ownsRow.alloc HI.out.own (.cells #[.int .i64 (minM M num + rf)] 3)) _ _ 1 1 _ rfl (reads_one (heap_alloc_new _ (.cells #[.int .i64 (minM M num + rf)] 3))) (by simp [Value.oneCell']) hx1.out.1 hx1.out.2 (Nat.le_trans HI.out.bel.size (by simp)) ?_; intro v6 w6 ho6 hg6 ha6; have HE := Lib.hid (mi_app HI.out ho6 hg6); clear ho6 hg6 ha6))
                  go_roundw
                  case rel => exact ⟨j + 1, by go_num, hj1.out, by rw [HYS.out, HY.out]; exact HE⟩
                  case measure => simp [intOf]; omega
                · have hmin : min rf N1 = N1 := by omega
                  have hmd : decide (rf ≤ N1) = false := decide_eq_false hmn
                  have HY := Lib.hid (show ys = xs ++ [minM M num + N1] by rw [hraw.out]; simp [spanN, hmin])
                  have hbz := Lib.hid (show w.heap.size ≤ wr.heap.size from hwl)
                  go_wp2_with (first
                    | (go_at_call 33; refine (CC.out).mono ?_; rintro e w5 ⟨rfl, hb5⟩; replace HI := Lib.hid (HI.out.below (HB4.out.trans (hb5.mono HB4.out.size))); obtain ⟨x0, x1, x2⟩ := HI.out.cells; dsimp only at x1 x2; have y1 := cell_of_row w5 wr.heap.size 1 _ _ (0, 0) ((hb5.block _ (lt_heap HY0.out)).trans HY0.out); replace y1 : w5.cell? { block := wr.heap.size, off := 1 } = some (.int .i64 rf) := y1; replace HB4 := Lib.hid (HB4.out.trans (hb5.mono HB4.out.size)); clear hb5)
                    | (at_builtin; refine wpList_append_any _ rfl _ _ 44 rfl w.heap.size 3 i0 _ 1 8 Try.underlying44 hi'.out hz0 hz1 hz2 rfl (by decide) _ _ _ rfl (World.ownsRow.alloc HI.out.own (.cells #[.int .i64 (minM M num + N1)] 3)) _ _ 1 1 _ rfl (reads_one (heap_alloc_new _ (.cells #[.int .i64 (minM M num + N1)] 3))) (by simp [Value.oneCell']) hx1.out.1 hx1.out.2 (Nat.le_trans HI.out.bel.size (by simp)) ?_; intro v6 w6 ho6 hg6 ha6; have HE := Lib.hid (mi_app HI.out ho6 hg6); clear ho6 hg6 ha6))
                  go_roundw
                  case rel => exact ⟨j + 1, by go_num, hj1.out, by rw [HYS.out, HY.out]; exact HE⟩
                  case measure => simp [intOf]; omega
            | false =>
              rw [hkp] at hraw
              have CC := gap_calls g (H.out.below ((HI.out.bel.mono (Nat.le_refl _)).trans (HB4.out.mono HI.out.bel.size))) (r := ⟨rk, rl, rf⟩) (show Bo (wr.alloc (.cells #[(.func (.func 33) #[] #[.pointer (some ⟨bx, 0, none⟩)]), .int .i64 rf] 75)) bx ⟨rk, rl, rf⟩ from (HB4.out.block _ (lt_heap hbx.out)).trans hbx.out) num
              rw [show quietM M num rl = false from (by have := hkp; unfold keepM at this; rw [if_neg hk1, if_neg hk2] at this; exact this)] at CC
              replace CC := Lib.hid CC
              clear hkp
              have HY := Lib.hid (show ys = xs by rw [hraw.out]; simp)
              go_wp2_with (go_at_call 33; refine (CC.out).mono ?_; rintro e w5 ⟨rfl, hb5⟩; replace HI := Lib.hid (HI.out.below (HB4.out.trans (hb5.mono HB4.out.size))); obtain ⟨x0, x1, x2⟩ := HI.out.cells; dsimp only at x1 x2; have y1 := cell_of_row w5 wr.heap.size 1 _ _ (0, 0) ((hb5.block _ (lt_heap HY0.out)).trans HY0.out); replace y1 : w5.cell? { block := wr.heap.size, off := 1 } = some (.int .i64 rf) := y1; replace HB4 := Lib.hid (HB4.out.trans (hb5.mono HB4.out.size)); clear hb5)
              go_roundw
              case rel => exact ⟨j + 1, by go_num, hj1.out, by rw [HYS.out, HY.out]; exact HI⟩
              case measure => simp [intOf]; omega
      · obtain rfl : j = ks.length := by omega
        simp only [List.take_length] at HI ⊢
        have hlr : (raw M num (N1, N2) (ks.map (·.1))).length ≤ 16 := Nat.le_trans (raw_len _ _ _ _) (by rw [List.length_map]; omega)
        have hml := List.length_mergeSort (le := fun x y : Int => decide (x ≤ y)) (raw M num (N1, N2) (ks.map (·.1)))
        have hcl : (Lib.compact ((raw M num (N1, N2) (ks.map (·.1))).mergeSort fun x y => decide (x ≤ y))).length ≤ ((raw M num (N1, N2) (ks.map (·.1))).mergeSort fun x y => decide (x ≤ y)).length := comp_le _
        have SC := Lib.hid (sort_own HI.out.own (by omega))
        have CC := Lib.hid (fun (W : World) (h : W.ownsRow w.heap.size 3 1 (.slice A9 (raw M num (N1, N2) (ks.map (·.1))).length c9) (raw M num (N1, N2) (ks.map (·.1))).length (((raw M num (N1, N2) (ks.map (·.1))).mergeSort fun x y => decide (x ≤ y)).map (Value.int .i64))) => compact_own (xs := (raw M num (N1, N2) (ks.map (·.1))).mergeSort fun x y => decide (x ≤ y)) (by rw [hml]; exact h) (by omega) hcl)
        clear hml hcl hlr hf
        generalize raw M num (N1, N2) (ks.map (·.1)) = xs at *
        go_wp2_with (first
          | (go_at_call 41; refine SC.out.mono ?_; rintro e w6 ⟨rfl, hr6, hg6⟩; have hb6 := Lib.hid (HI.out.bel.grown hg6 HI.out.bel.size (fun k e => own_base HI.out.own k e)); replace hr6 := Lib.hid hr6; clear hg6)
          | (go_at_call 42; refine (CC.out _ hr6.out).mono ?_; rintro e w7 ⟨v7, rfl, hr7, hg7⟩; have hb7 := Lib.hid (hb6.out.grown hg7 hb6.out.size (fun k e => own_base hr6.out k e)); replace hr7 := Lib.hid hr7; clear hg7))
        go_ret
        exact ⟨v7, rfl, by rw [e1.out]; exact hr7.out, hb7.out⟩
end Go.Proofs.Ytonlbeonblpblaa.All
