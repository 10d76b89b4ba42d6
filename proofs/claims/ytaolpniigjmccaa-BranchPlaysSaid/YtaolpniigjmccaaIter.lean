/-
  A forest's branches that are alive, one after the other (an iterator), and their bases. Condition: the forest's cells lie in its block.
-/
import Derived.Test.YtaolpniigjmccaaForest
import Derived.Test.YtaolpniigjmccaaSortH
import Derived.RangeFuncBox
import Derived.RangeFuncLeaves
import Derived.RangeFuncWrites
import Derived.Shelf.Abstract
import Derived.OwnWalkIn
import Derived.TacticsInMore
import Derived.LoopNIn
import Derived.LoopIn
import Derived.Maps.AppendAt
namespace Go.Proofs.Ytaolpniigjmccaa.All
open Go.RowKit Go.Shelf Go.Proofs.YtaolpniigjmccaaW.PrintWords Go.Proofs.Ytaolpniigjmccaa.Wd
set_option linter.unusedVariables false
set_option linter.unusedSimpArgs false
attribute [local go_sem] Oper.semAt_some
/-- Those that are alive. -/
def aliveL (F : List Tw) (k : Nat) : List Int := ((List.range k).filter fun (i : Nat) => aliveF F (i : Int)).map fun (i : Nat) => (i : Int)
def Kp (b Bn : Nat) (W W' : World) : Prop := W'.heap[b]? = W.heap[b]? ∧ W'.heap[Bn]? = W.heap[Bn]?
theorem aliveL_yes {F : List Tw} {k : Nat} (h : aliveF F (k : Int) = true) : aliveL F (k + 1) = aliveL F k ++ [(k : Int)] := by
  unfold aliveL
  rw [List.range_succ, List.filter_append, List.map_append]
  simp [h]
theorem aliveL_no {F : List Tw} {k : Nat} (h : aliveF F (k : Int) = false) : aliveL F (k + 1) = aliveL F k := by
  unfold aliveL
  rw [List.range_succ, List.filter_append, List.map_append]
  simp [h]
theorem aliveL_pre (F : List Tw) {k n : Nat} (h : k ≤ n) : aliveL F k <+: aliveL F n := by
  induction n with
  | zero => obtain rfl : k = 0 := by omega
            exact List.prefix_rfl
  | succ n ih =>
    by_cases hk : k = n + 1
    · rw [hk]; exact List.prefix_rfl
    · have := ih (by omega)
      cases ha : aliveF F (n : Int) with
      | true => rw [aliveL_yes ha]; exact this.trans (List.prefix_append _ _)
      | false => rw [aliveL_no ha]; exact this
theorem aliveL_len (F : List Tw) (k : Nat) : (aliveL F k).length ≤ k := by
  unfold aliveL
  rw [List.length_map]
  exact Nat.le_trans (List.length_filter_le _ _) (by simp)
set_option maxRecDepth 100000 in
set_option maxHeartbeats 1000000 in
theorem all1_in (n : Nat) (hn : 1 ≤ n) (l Bn b : Nat) (G : List Tw) (J Jx : List Int → World → Prop)
    (hY : ∀ pre x W, J pre W → pre.length < (aliveL G 16).length → YieldAt Fence.wide (n - 1) Try.prog l #[.int .i64 x] W fun e W' =>
      (e = .returned (.bool true) ∧ J (pre ++ [x]) W' ∧ Kp b Bn W W') ∨ (e = .returned (.bool false) ∧ Jx (pre ++ [x]) W'))
    (W : World) (hBn : Boxed W Bn 27 (.pointer (some ⟨b, 0, none⟩))) (hA : At W b 69 G) (h0 : J [] W) :
    CallsIn Fence.wide n Try.prog 38 #[.func (.yield l) #[] #[], .pointer (some ⟨Bn, 0, none⟩)] W fun e W' => (∃ v, e = .returned v) ∧
      ((∃ ys, ys = aliveL G 16 ∧ J ys W') ∨ (∃ pre, pre <+: aliveL G 16 ∧ Jx pre W')) := by
  refine callsIn_of_wp Try.func38 rfl trivial ?_ rfl
  simp only [Try.ntmps38, List.size_toArray, List.length_cons, List.length_nil, Nat.reduceAdd, Nat.reduceSub, Array.replicate_succ, Array.replicate_zero, List.push_toArray, List.append_toArray, List.nil_append, List.cons_append]
  gi_wp2
  gi_loopw [4] (fun v4 wr => ∃ k : Nat, v4 = .int .i64 k ∧ k ≤ 16 ∧ Hid (Boxed wr Bn 27 (.pointer (some ⟨b, 0, none⟩))) ∧ Hid (At wr b 69 G) ∧ Hid (J (aliveL G k) wr)) (fun v4 _ => 16 - (intOf v4).toNat)
  case atStart => exact ⟨0, rfl, Nat.zero_le _, Lib.hid hBn, Lib.hid hA, Lib.hid h0⟩
  case round =>
    obtain ⟨k, rfl, hk, HB, HA, HJ⟩ := hrel
    have hc := HB.out.cell
    by_cases hlt : k < 16
    · have AC := alive_calls G b (k : Int) wr HA.out
      have hk1 := Lib.hid (show k + 1 ≤ 16 by omega)
      cases ha : aliveF G (k : Int) with
      | false =>
        rw [ha] at AC
        replace AC := Lib.hid AC
        have HN := Lib.hid (aliveL_no ha)
        clear ha
        gi_wp2_with (refine ⟨trivial, ?_⟩; gi_at_call 21; refine (callsIn_wide.2 AC.out).mono ?_; rintro e w' ⟨rfl, rfl⟩)
        all_goals
          refine ⟨(fun _ h => by cases h), ?_⟩
          gi_wp2
          go_roundw
          case rel => exact ⟨k + 1, by go_num, hk1.out, HB, HA, by rw [HN.out]; exact HJ⟩
          case measure => simp [intOf]; omega
      | true =>
        rw [ha] at AC
        replace AC := Lib.hid AC
        have HN := Lib.hid (aliveL_yes ha)
        have hlen : (aliveL G k).length < (aliveL G 16).length := by
          have h1 := (aliveL_pre G hk1.out).length_le
          rw [HN.out, List.length_append] at h1
          simp at h1
          omega
        have HP := Lib.hid (aliveL_pre G hk1.out)
        obtain ⟨fn, tmps, assign, body, hy, hR⟩ := hY (aliveL G k) k wr HJ.out hlen
        clear ha hlen
        gi_wp2_with (refine ⟨trivial, ?_⟩; gi_at_call 21; refine (callsIn_wide.2 AC.out).mono ?_; rintro e w' ⟨rfl, rfl⟩)
        refine hR.mono ?_
        rintro e W3 (⟨rfl, hJ3, hk3⟩ | ⟨rfl, hJx3⟩)
        · replace hJ3 := Lib.hid hJ3
          replace hk3 := Lib.hid hk3
          gi_wp2
          go_roundw
          case rel => exact ⟨k + 1, by go_num, hk1.out, hk3.out.2.trans HB.out, ⟨HA.out.1, hk3.out.1.trans HA.out.2⟩, by rw [HN.out]; exact hJ3⟩
          case measure => simp [intOf]; omega
        · replace hJx3 := Lib.hid hJx3
          gi_wp2
          refine bodyPost_ret (results_none rfl _ _ _) rfl ?_
          exact ⟨⟨_, rfl⟩, .inr ⟨aliveL G k ++ [(k : Int)], by rw [← HN.out]; exact HP.out, hJx3.out⟩⟩
    · obtain rfl : k = 16 := by omega
      gi_wp2
      go_end0
      exact ⟨⟨_, rfl⟩, .inl ⟨_, rfl, HJ.out⟩⟩

theorem all_in (n : Nat) (p : Option Addr) (w : World) : CallsIn Fence.wide n Try.prog 28 #[.pointer p] w fun e w' => e = .returned (.func (.func 38) #[] #[.pointer (some ⟨w.heap.size, 0, none⟩)]) ∧ w' = w.alloc (.cells #[.pointer p] 27) := by
  refine callsIn_of_wp Try.func28 rfl trivial ?_ rfl
  simp only [Try.ntmps28, List.size_toArray, List.length_cons, List.length_nil, Nat.reduceAdd, Nat.reduceSub, Array.replicate_succ, Array.replicate_zero, List.push_toArray, List.append_toArray, List.nil_append, List.cons_append]
  gi_wp2
  go_ret
  exact ⟨rfl, rfl⟩
theorem all_stops (n : Nat) (hn : 1 ≤ n) (Bn b : Nat) (G : List Tw) (w : World) (hBn : Boxed w Bn 27 (.pointer (some ⟨b, 0, none⟩))) (hA : At w b 69 G) :
    SeqStopsK Fence.wide n Try.prog 38 #[.pointer (some ⟨Bn, 0, none⟩)] (fun x : Int => #[Value.int .i64 x]) (Kp b Bn) (fun ys => ys = aliveL G 16) (fun pre => pre <+: aliveL G 16) (aliveL G 16).length w := fun l J Jx W hW _ _ hY h0 =>
  all1_in n hn l Bn b G J Jx hY W ((hW.block Bn hBn.lt).trans hBn) (hA.below hW) h0
theorem kp_t {b Bn : Nat} {A B C : World} (h : Kp b Bn A B) (k : Kp b Bn B C) : Kp b Bn A C := ⟨k.1.trans h.1, k.2.trans h.2⟩
theorem kp_b {b Bn : Nat} {w : World} (h1 : b < w.heap.size) (h2 : Bn < w.heap.size) (W : World) (l : Nat) (o o' : Obj) (hl : w.heap.size ≤ l) (h : W.heap[l]? = some o) (_ : o.isCells = false) (_ : o.isWalk = false) : Kp b Bn W (W.putObj l o') :=
  ⟨World.putObj_heap_other (by omega), World.putObj_heap_other (by omega)⟩
/-- The bases, as they come. -/
def baseL (F : List Tw) (pre : List Int) : List Int := (pre.filter fun i => isSon F i).map fun i => parB F i
theorem baseL_yes {F : List Tw} (pre : List Int) {x : Int} (h : isSon F x = true) : baseL F (pre ++ [x]) = baseL F pre ++ [parB F x] := by simp [baseL, h]
theorem baseL_no {F : List Tw} (pre : List Int) {x : Int} (h : isSon F x = false) : baseL F (pre ++ [x]) = baseL F pre := by simp [baseL, h]
theorem baseL_len (F : List Tw) (pre : List Int) : (baseL F pre).length ≤ pre.length := by
  unfold baseL
  rw [List.length_map]
  exact List.length_filter_le _ _
def basesF (F : List Tw) : List Int := Lib.compact ((baseL F (aliveL F 16)).mergeSort fun x y => decide (x ≤ y))
theorem at_own (b : Nat) (T : TypeId) (G : List Tw) : Own (fun (_ : List Int) W => At W b T G) := fun s W W' row hs hg hr => ⟨hs.1, (grownBy_keeps_cells hg hr hs.2 rfl).trans hs.2⟩
theorem u64_info : (Try.prog.info? 23).map (fun i => (i.zero, i.size, i.bytes)) = some (some (.int .u64 0), 1, 8) := by kernel_rfl
end Go.Proofs.Ytaolpniigjmccaa.All
