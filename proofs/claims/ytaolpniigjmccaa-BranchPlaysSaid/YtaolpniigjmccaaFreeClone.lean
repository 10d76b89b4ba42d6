/-
  The least id that is free; another forest that is the same. Condition: the pointer is nil, or the forest's cells lie in its block.
-/
import Derived.Test.YtaolpniigjmccaaForest
import Derived.Deep.WholeRow
namespace Go.Proofs.Ytaolpniigjmccaa.All
open Go.RowKit Go.Proofs.YtaolpniigjmccaaW.PrintWords Go.Proofs.YtaolpniigjmccaaW.PrintLast Go.Proofs.YtaolpniigjmccaaW.PrintMore Go.Proofs.Ytaolpniigjmccaa.Wd
set_option linter.unusedVariables false
set_option linter.unusedSimpArgs false
theorem clone_nil (w : World) : Calls Try.prog 24 #[.pointer none] w fun e w' => e = .returned (.pointer none) ∧ w = w' := by
  go_enter Try.func24, Try.ntmps24
  go_wp2
  go_ret
  exact ⟨rfl, rfl⟩
theorem free_nil (w : World) : Calls Try.prog 23 #[.pointer none] w fun e w' => e = .returned (.tuple #[.int .i64 0, .bool false]) ∧ w = w' := by
  go_enter Try.func23, Try.ntmps23
  go_wp2
  go_ret2
  exact ⟨rfl, rfl⟩
set_option maxRecDepth 100000 in
set_option maxHeartbeats 1000000 in
theorem clone_calls (F : List Tw) (b : Nat) (w : World) (h : At w b 69 F) :
    Calls Try.prog 24 #[.pointer (some ⟨b, 0, none⟩)] w fun e w' => e = .returned (.pointer (some ⟨w.heap.size, 0, none⟩)) ∧ At w' w.heap.size 69 F ∧ Below w.heap.size w w' := by
  have HZ := Lib.hid (show (Try.prog.info? 69).map (·.size) = some (fc F).toArray.size by rw [List.size_toArray, fc_len, h.1]; kernel_rfl)
  have HH := Lib.hid h
  have hlen : (fc F).length = 64 := by rw [fc_len, h.1]
  have hst : ∀ c : Array Value, c.size = 64 → (storeCells ⟨w.heap.size, 0, none⟩ (fc F)).run Try.prog (w.alloc (.cells c 69)) = .ok () (w.alloc (.cells (fc F).toArray 69)) := fun c hc =>
    run_storeCells_new w 69 c (fc F).toArray HZ.out (by rw [hc, List.size_toArray, hlen]) (by
      rw [Array.all_eq_true_iff_forall_mem]
      intro u hu
      obtain ⟨t, ht, hut⟩ := List.mem_flatMap.1 (show u ∈ fc F by simpa using hu)
      simp only [tc, List.mem_cons, List.not_mem_nil, or_false] at hut
      rcases hut with rfl | rfl | rfl | rfl <;> rfl)
  clear h
  go_enter Try.func24, Try.ntmps24
  go_wp2_with (refine wpList_load_row rfl 69 (.tmp 7) rfl b rfl 69 (fc F).toArray (0, 0) _ HH.out.2 Try.underlying69 rfl HZ.out ?_)
  go_ret
  exact ⟨rfl, ⟨HH.out.1, heap_alloc_new w _⟩, below_alloc (Below.refl _ _) _⟩
/-- The least id that is free, if there is one. -/
structure FreeAt (F : List Tw) (r : Nat) : Prop where
  lo : 1 ≤ r
  hi : r < 16
  idle : (tw F (r : Int)).a = false
  least : ∀ j : Nat, 1 ≤ j → j < r → (tw F (j : Int)).a = true
theorem tw_nat (F : List Tw) (k : Nat) : F.getD k tz = tw F (k : Int) := by unfold tw; rw [Int.toNat_natCast]
set_option maxRecDepth 100000 in
set_option maxHeartbeats 1000000 in
theorem free_yes (F : List Tw) (b : Nat) (r : Nat) (w : World) (h : At w b 69 F) (hf : FreeAt F r) :
    Calls Try.prog 23 #[.pointer (some ⟨b, 0, none⟩)] w fun e w' => e = .returned (.tuple #[.int .i64 r, .bool true]) ∧ Below w.heap.size w w' := by
  have HZ := Lib.hid (show (Try.prog.info? 67).map (·.size) = some (fc F).toArray.size by rw [List.size_toArray, fc_len, h.1]; kernel_rfl)
  have HH := Lib.hid h
  have hr1 := hf.lo
  have hr2 := hf.hi
  clear h
  go_enter Try.func23, Try.ntmps23
  go_wp2_with (refine wpList_load_row rfl 67 (.tmp 10) rfl b rfl 69 (fc F).toArray (0, 0) (.array 16 66) HH.out.2 (by kernel_rfl) rfl HZ.out ?_)
  go_loopw [12] (fun i wr => ∃ k : Nat, k ≤ r ∧ i = .int .i64 k ∧ Hid (Below w.heap.size w wr)) (fun i _ => 16 - (intOf i).toNat)
  case atStart => exact ⟨0, by omega, rfl, Below.refl _ _⟩
  case round =>
    obtain ⟨k, hk, rfl, HB⟩ := hrel
    have hk16 : k < 16 := by omega
    have IX := index_twig F HH.out.1 k hk16
    have ht : (F.getD k tz).a = (if k = 0 then (tw F 0).a else if k < r then true else false) := by
      rw [tw_nat]
      by_cases h0 : k = 0
      · subst h0; rfl
      · rw [if_neg h0]
        by_cases h1 : k < r
        · rw [if_pos h1]; exact hf.least k (by omega) h1
        · rw [if_neg h1]; obtain rfl : k = r := by omega
          exact hf.idle
    obtain ⟨⟨ta, tp, tb, tn⟩, htt⟩ : ∃ t, F.getD k tz = t := ⟨_, rfl⟩
    rw [htt] at IX ht
    clear htt
    have HB2 := Lib.hid (HB.out.alloc HB.out.size (Obj.cells #[Value.bool ta, .int .i64 tp, .int .u64 tb, .int .u64 tn] 66))
    by_cases h0 : k = 0
    · have hd0 : decide ((0 : Int) < (k : Int)) = false := decide_eq_false (by omega)
      have hle0 : k ≤ 0 := by omega
      clear ht h0
      have hk1 := Lib.hid (show k + 1 ≤ r by omega)
      go_wp2
      go_roundw
      case rel => exact ⟨k + 1, hk1.out, by go_num, HB2⟩
      case measure => simp [intOf]; omega
    · rw [if_neg h0] at ht
      have hpos : 0 < k := by omega
      by_cases h1 : k < r
      · rw [if_pos h1] at ht
        have ht' : ta = true := ht
        subst ht'
        clear ht
        have hk1 := Lib.hid (show k + 1 ≤ r by omega)
        go_wp2
        go_roundw
        case rel => exact ⟨k + 1, hk1.out, by go_num, HB2⟩
        case measure => simp [intOf]; omega
      · rw [if_neg h1] at ht
        have ht' : ta = false := ht
        subst ht'
        clear ht
        obtain rfl : k = r := by omega
        go_wp2
        go_ret2
        exact ⟨rfl, HB2.out⟩
set_option maxRecDepth 100000 in
set_option maxHeartbeats 1000000 in
theorem free_no (F : List Tw) (b : Nat) (w : World) (h : At w b 69 F) (hf : ∀ j : Nat, 1 ≤ j → j < 16 → (tw F (j : Int)).a = true) :
    Calls Try.prog 23 #[.pointer (some ⟨b, 0, none⟩)] w fun e w' => e = .returned (.tuple #[.int .i64 0, .bool false]) ∧ Below w.heap.size w w' := by
  have HZ := Lib.hid (show (Try.prog.info? 67).map (·.size) = some (fc F).toArray.size by rw [List.size_toArray, fc_len, h.1]; kernel_rfl)
  have HH := Lib.hid h
  have HF := Lib.hid hf
  clear h hf
  go_enter Try.func23, Try.ntmps23
  go_wp2_with (refine wpList_load_row rfl 67 (.tmp 10) rfl b rfl 69 (fc F).toArray (0, 0) (.array 16 66) HH.out.2 (by kernel_rfl) rfl HZ.out ?_)
  go_loopw [12] (fun i wr => ∃ k : Nat, k ≤ 16 ∧ i = .int .i64 k ∧ Hid (Below w.heap.size w wr)) (fun i _ => 16 - (intOf i).toNat)
  case atStart => exact ⟨0, by omega, rfl, Below.refl _ _⟩
  case round =>
    obtain ⟨k, hk, rfl, HB⟩ := hrel
    by_cases hk16 : k < 16
    · have IX := index_twig F HH.out.1 k hk16
      have hk1 := Lib.hid (show k + 1 ≤ 16 by omega)
      have ht : 1 ≤ k → (F.getD k tz).a = true := fun h1 => by rw [tw_nat]; exact HF.out k h1 hk16
      obtain ⟨⟨ta, tp, tb, tn⟩, htt⟩ : ∃ t, F.getD k tz = t := ⟨_, rfl⟩
      rw [htt] at IX ht
      clear htt
      have HB2 := Lib.hid (HB.out.alloc HB.out.size (Obj.cells #[Value.bool ta, .int .i64 tp, .int .u64 tb, .int .u64 tn] 66))
      by_cases h0 : k = 0
      · have hd0 : decide ((0 : Int) < (k : Int)) = false := decide_eq_false (by omega)
        have hle0 : k ≤ 0 := by omega
        clear ht h0
        go_wp2
        go_roundw
        case rel => exact ⟨k + 1, hk1.out, by go_num, HB2⟩
        case measure => simp [intOf]; omega
      · have hpos : 0 < k := by omega
        have ht' : ta = true := ht hpos
        subst ht'
        clear ht
        go_wp2
        go_roundw
        case rel => exact ⟨k + 1, hk1.out, by go_num, HB2⟩
        case measure => simp [intOf]; omega
    · go_wp2
      go_ret2
      exact ⟨rfl, HB.out⟩
end Go.Proofs.Ytaolpniigjmccaa.All
