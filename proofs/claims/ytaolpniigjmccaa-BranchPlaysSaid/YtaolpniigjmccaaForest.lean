/-
  The Go package branch, function by function: what each answers of a forest in memory, and what becomes of it. Condition: the pointer is nil, or the forest's cells lie in its block.
-/
import Derived.Test.YtaolpniigjmccaaWood
import Derived.Test.YtaolpniigjmccaaProg
import Derived.WalkKit
import Derived.KernelRfl
import Derived.Tactics
import Derived.Deep.Draws
import Derived.Deep.QuietTactic
import Derived.BigQuiet
import Derived.Deep.DeepCutAuto
import Derived.Deep.RegionHeld3
import Derived.Deep.LoopGhost
import Derived.OwnWalk
import Derived.Laws.OwnMore
import Derived.Laws.Slices
import Derived.StillTailTactics
import Derived.Outline
import Derived.Deep.RegionLaw
import Derived.ChangeKeysEq
namespace Go.Proofs.Ytaolpniigjmccaa.All
open Go.RowKit Go.Proofs.YtaolpniigjmccaaW.PrintWords Go.Proofs.YtaolpniigjmccaaW.PrintLast Go.Proofs.YtaolpniigjmccaaW.PrintMore Go.Proofs.Ytaolpniigjmccaa.Wd
set_option linter.unusedVariables false
set_option linter.unusedSimpArgs false

set_option maxRecDepth 100000 in
theorem alive_calls (F : List Tw) (b : Nat) (id : Int) (w : World) (h : At w b 69 F) :
    Calls Try.prog 21 #[.pointer (some ⟨b, 0, none⟩), .int .i64 id] w fun e w' => e = .returned (.bool (aliveF F id)) ∧ w = w' := by
  by_cases h0 : id < 0
  · go_enter Try.func21, Try.ntmps21
    go_wp2
    go_ret
    exact ⟨ret_b (alive_out (Or.inl h0)).symm, rfl⟩
  by_cases h1 : 16 ≤ id
  · go_enter Try.func21, Try.ntmps21
    go_wp2
    go_ret
    exact ⟨ret_b (alive_out (Or.inr h1)).symm, rfl⟩
  by_cases h2 : id = 0
  · subst h2
    go_enter Try.func21, Try.ntmps21
    go_wp2
    go_ret
    exact ⟨ret_b (alive_zero F).symm, rfl⟩
  have h3 : 0 ≤ id := by omega
  have h4 : id < 16 := by omega
  obtain ⟨c0, _⟩ := h.cells h3 h4
  have E := Lib.hid (alive_in (F := F) h3 h4 h2)
  have h5 : (id == 0) = false := by simpa using h2
  go_enter Try.func21, Try.ntmps21
  go_wp2
  go_ret
  exact ⟨ret_b E.out.symm, rfl⟩
theorem alive_nil (id : Int) (w : World) : Calls Try.prog 21 #[.pointer none, .int .i64 id] w fun e w' => e = .returned (.bool false) ∧ w = w' := by
  go_enter Try.func21, Try.ntmps21
  go_wp2
  go_ret
  exact ⟨rfl, rfl⟩
theorem new_calls (w : World) : Calls Try.prog 11 #[] w fun e w' => e = .returned (.pointer (some ⟨w.heap.size, 0, none⟩)) ∧ At w' w.heap.size 69 newF ∧ Below w.heap.size w w' := by
  go_enter Try.func11, Try.ntmps11
  go_wp2
  go_ret
  exact ⟨rfl, ⟨rfl, heap_alloc_new w _⟩, below_alloc (Below.refl _ _) _⟩
set_option maxRecDepth 100000 in
theorem num_calls (F : List Tw) (b : Nat) (id : Int) (w : World) (h : At w b 69 F) :
    Calls Try.prog 15 #[.pointer (some ⟨b, 0, none⟩), .int .i64 id] w fun e w' => e = .returned (.tuple #[.int .u64 (numF F id), .bool (aliveF F id)]) ∧ w = w' := by
  by_cases h0 : aliveF F id = true
  · obtain ⟨h3, h4⟩ := alive_range h0
    obtain ⟨c0, c1, c2, c3⟩ := h.cells h3 h4
    have E := Lib.hid (show numF F id = (tw F id).n by unfold numF; rw [if_pos h0])
    have AC := (alive_calls F b id w h)
    go_enter Try.func15, Try.ntmps15
    go_wp2_with (go_at_call 21; refine AC.mono ?_; rintro e w' ⟨rfl, rfl⟩)
    go_ret2
    exact ⟨ret_2 (v_i E.out) (v_b h0), rfl⟩
  · replace h0 : aliveF F id = false := by simpa using h0
    have E := Lib.hid (show numF F id = 0 by unfold numF; rw [h0]; rfl)
    have AC := (alive_calls F b id w h)
    go_enter Try.func15, Try.ntmps15
    go_wp2_with (go_at_call 21; refine AC.mono ?_; rintro e w' ⟨rfl, rfl⟩)
    go_ret2
    exact ⟨ret_2 (v_i E.out) (v_b h0), rfl⟩
set_option maxRecDepth 100000 in
theorem parent_calls (F : List Tw) (b : Nat) (id : Int) (w : World) (h : At w b 69 F) :
    Calls Try.prog 16 #[.pointer (some ⟨b, 0, none⟩), .int .i64 id] w fun e w' => e = .returned (.tuple #[.int .i64 (parP F id), .int .u64 (parB F id), .bool (isSon F id)]) ∧ Drawn0 w w' := by
  by_cases hz : id = 0
  · subst hz
    go_enter Try.func16, Try.ntmps16
    go_wp2
    go_ret3
    exact ⟨rfl, Drawn0.refl _⟩
  have hz' : (id == 0) = false := by simpa using hz
  by_cases h0 : aliveF F id = true
  · obtain ⟨h3, h4⟩ := alive_range h0
    obtain ⟨c0, c1, c2, c3⟩ := h.cells h3 h4
    have es : isSon F id = true := by unfold isSon; rw [h0, hz']; rfl
    have E := Lib.hid (show parP F id = (tw F id).p ∧ parB F id = (tw F id).b ∧ isSon F id = true by unfold parP parB; rw [if_pos es, if_pos es]; exact ⟨rfl, rfl, es⟩)
    clear es
    have AC := (alive_calls F b id w h)
    go_enter Try.func16, Try.ntmps16
    go_wp2_with (go_at_call 21; refine AC.mono ?_; rintro e w' ⟨rfl, rfl⟩)
    go_quiet (fail)
    go_wp2
    go_ret3
    exact ⟨ret_3 (v_i E.out.1) (v_i E.out.2.1) (v_b E.out.2.2), ⟨_, rfl⟩⟩
  · replace h0 : aliveF F id = false := by simpa using h0
    have es : isSon F id = false := by unfold isSon; rw [h0]; rfl
    have E := Lib.hid (show parP F id = 0 ∧ parB F id = 0 ∧ isSon F id = false by unfold parP parB; rw [es]; exact ⟨rfl, rfl, rfl⟩)
    clear es
    have AC := (alive_calls F b id w h)
    go_enter Try.func16, Try.ntmps16
    go_wp2_with (go_at_call 21; refine AC.mono ?_; rintro e w' ⟨rfl, rfl⟩)
    go_ret3
    exact ⟨ret_3 (v_i E.out.1) (v_i E.out.2.1) (v_b E.out.2.2), Drawn0.refl _⟩

/-! ### Fork -/
def ForkPost (F : List Tw) (b : Nat) (id p base num : Int) (w : World) (e : Ending) (w' : World) : Prop := e = .returned (.int .i64 (forkC F id p base num)) ∧ At w' b 69 (forkF F id p base num) ∧ Chg (· = b) w w'
theorem fork_same {F : List Tw} {b : Nat} {id p base num : Int} {w : World} (h : At w b 69 F) {c : Int} (hc : forkC F id p base num = c) (hn : c ≠ 0) : ForkPost F b id p base num w (.returned (.int .i64 c)) w :=
  ⟨ret_i hc.symm, by rw [fork_no (by rw [hc]; exact hn)]; exact h, Chg.refl _ _⟩
theorem fork_store {F : List Tw} {b : Nat} {id p base num : Int} {w : World} (h : At w b 69 F) (hc : forkC F id p base num = 0) (hi : id.toNat < 16) :
    ForkPost F b id p base num w (.returned (.int .i64 0)) ((((w.setCell { block := b, off := id.toNat * 4 } (.bool true)).setCell { block := b, off := id.toNat * 4 + 1 } (.int .i64 p)).setCell { block := b, off := id.toNat * 4 + 2 } (.int .u64 base)).setCell { block := b, off := id.toNat * 4 + 3 } (.int .u64 num)) := by
  have e : forkF F id p base num = F.set id.toNat ⟨true, p, base, num⟩ := if_pos hc
  have k := h.put4 hi ⟨true, p, base, num⟩
  rw [← e] at k
  exact ⟨ret_i hc.symm, k, chg4 w b id.toNat _ _ _ _⟩
set_option maxRecDepth 100000 in
theorem fork_range (F : List Tw) (b : Nat) (id p base num : Int) (w : World) (h : At w b 69 F) (h0 : id < 1 ∨ 16 ≤ id) :
    Calls Try.prog 13 #[.pointer (some ⟨b, 0, none⟩), .int .i64 id, .int .i64 p, .int .u64 base, .int .u64 num] w (ForkPost F b id p base num w) := by
  have HC := Lib.hid (show forkC F id p base num = 2 by unfold forkC; rw [if_pos h0])
  have HH := Lib.hid h
  clear h
  rcases h0 with h0 | h0
  · go_enter Try.func13, Try.ntmps13
    go_wp2
    go_ret
    exact fork_same HH.out HC.out (by decide)
  · have h1 : ¬ id < 1 := by omega
    go_enter Try.func13, Try.ntmps13
    go_wp2
    go_ret
    exact fork_same HH.out HC.out (by decide)
set_option maxRecDepth 100000 in
theorem fork_twice (F : List Tw) (b : Nat) (id p base num : Int) (w : World) (h : At w b 69 F) (h0 : 1 ≤ id) (h1 : id < 16) (h2 : (tw F id).a = true) :
    Calls Try.prog 13 #[.pointer (some ⟨b, 0, none⟩), .int .i64 id, .int .i64 p, .int .u64 base, .int .u64 num] w (ForkPost F b id p base num w) := by
  have HC := Lib.hid (show forkC F id p base num = 5 by unfold forkC; rw [if_neg (by omega), if_pos h2])
  obtain ⟨c0, c1, c2, c3⟩ := h.cells (id := id) (by omega) h1
  have HH := Lib.hid h
  clear h
  go_enter Try.func13, Try.ntmps13
  go_wp2
  go_ret
  exact fork_same HH.out HC.out (by decide)
set_option maxRecDepth 100000 in
theorem fork_none (F : List Tw) (b : Nat) (id p base num : Int) (w : World) (h : At w b 69 F) (h0 : 1 ≤ id) (h1 : id < 16) (h2 : (tw F id).a = false) (h3 : aliveF F p = false) :
    Calls Try.prog 13 #[.pointer (some ⟨b, 0, none⟩), .int .i64 id, .int .i64 p, .int .u64 base, .int .u64 num] w (ForkPost F b id p base num w) := by
  have HC := Lib.hid (show forkC F id p base num = 4 by unfold forkC; rw [if_neg (by omega), if_neg (by rw [h2]; decide), if_pos h3])
  obtain ⟨c0, c1, c2, c3⟩ := h.cells (id := id) (by omega) h1
  have AC := Lib.hid (alive_calls F b p w h)
  have HH := Lib.hid h
  clear h
  go_enter Try.func13, Try.ntmps13
  go_wp2_with (go_at_call 21; refine AC.out.mono ?_; rintro e w' ⟨rfl, rfl⟩)
  go_ret
  exact fork_same HH.out HC.out (by decide)
set_option maxRecDepth 100000 in
theorem fork_past (F : List Tw) (b : Nat) (id p base num : Int) (w : World) (h : At w b 69 F) (h0 : 1 ≤ id) (h1 : id < 16) (h2 : (tw F id).a = false) (h3 : aliveF F p = true) (h4 : base < (tw F p).n ∨ num ≤ base) :
    Calls Try.prog 13 #[.pointer (some ⟨b, 0, none⟩), .int .i64 id, .int .i64 p, .int .u64 base, .int .u64 num] w (ForkPost F b id p base num w) := by
  have HC := Lib.hid (show forkC F id p base num = 15 by unfold forkC; rw [if_neg (by omega), if_neg (by rw [h2]; decide), if_neg (by rw [h3]; decide), if_pos h4])
  obtain ⟨c0, c1, c2, c3⟩ := h.cells (id := id) (by omega) h1
  obtain ⟨g3, g4⟩ := alive_range h3
  obtain ⟨d0, d1, d2, d3⟩ := h.cells g3 g4
  have AC := Lib.hid (alive_calls F b p w h)
  have HH := Lib.hid h
  clear h
  by_cases h5 : base < (tw F p).n
  · go_enter Try.func13, Try.ntmps13
    go_wp2_with (go_at_call 21; refine AC.out.mono ?_; rintro e w' ⟨rfl, rfl⟩)
    go_ret
    exact fork_same HH.out HC.out (by decide)
  · have h6 : num ≤ base := by omega
    clear h4
    go_enter Try.func13, Try.ntmps13
    go_wp2_with (go_at_call 21; refine AC.out.mono ?_; rintro e w' ⟨rfl, rfl⟩)
    go_ret
    exact fork_same HH.out HC.out (by decide)
set_option maxRecDepth 100000 in
theorem fork_done (F : List Tw) (b : Nat) (id p base num : Int) (w : World) (h : At w b 69 F) (h0 : 1 ≤ id) (h1 : id < 16) (h2 : (tw F id).a = false) (h3 : aliveF F p = true) (h4 : (tw F p).n ≤ base) (h5 : base < num) :
    Calls Try.prog 13 #[.pointer (some ⟨b, 0, none⟩), .int .i64 id, .int .i64 p, .int .u64 base, .int .u64 num] w (ForkPost F b id p base num w) := by
  have HC := Lib.hid (show forkC F id p base num = 0 by unfold forkC; rw [if_neg (by omega), if_neg (by rw [h2]; decide), if_neg (by rw [h3]; decide), if_neg (by omega)])
  obtain ⟨c0, c1, c2, c3⟩ := h.cells (id := id) (by omega) h1
  obtain ⟨g3, g4⟩ := alive_range h3
  obtain ⟨d0, d1, d2, d3⟩ := h.cells g3 g4
  have AC := Lib.hid (alive_calls F b p w h)
  have fz := fun o => frozen_of_row w b o (fc F).toArray 69 h.2
  have HH := Lib.hid h
  have HI := Lib.hid (show id.toNat < 16 by omega)
  clear h
  go_enter Try.func13, Try.ntmps13
  go_wp2_with (go_at_call 21; refine AC.out.mono ?_; rintro e w' ⟨rfl, rfl⟩)
  go_ret
  exact fork_store HH.out HC.out HI.out
theorem fork_calls (F : List Tw) (b : Nat) (id p base num : Int) (w : World) (h : At w b 69 F) :
    Calls Try.prog 13 #[.pointer (some ⟨b, 0, none⟩), .int .i64 id, .int .i64 p, .int .u64 base, .int .u64 num] w (ForkPost F b id p base num w) := by
  by_cases h0 : id < 1 ∨ 16 ≤ id
  · exact fork_range F b id p base num w h h0
  cases h2 : (tw F id).a with
  | true => exact fork_twice F b id p base num w h (by omega) (by omega) h2
  | false =>
    cases h3 : aliveF F p with
    | false => exact fork_none F b id p base num w h (by omega) (by omega) h2 h3
    | true =>
      by_cases h4 : base < (tw F p).n ∨ num ≤ base
      · exact fork_past F b id p base num w h (by omega) (by omega) h2 h3 h4
      · exact fork_done F b id p base num w h (by omega) (by omega) h2 h3 (by omega) (by omega)
theorem fork_nil (id p base num : Int) (w : World) : Calls Try.prog 13 #[.pointer none, .int .i64 id, .int .i64 p, .int .u64 base, .int .u64 num] w fun e w' => e = .returned (.int .i64 1) ∧ w = w' := by
  go_enter Try.func13, Try.ntmps13
  go_wp2
  go_ret
  exact ⟨rfl, rfl⟩
/-! ### Kids, Drop -/
theorem index_twig (F : List Tw) (hF : F.length = 16) (i : Nat) (hi : i < 16) (w : World) : (Instr.index 67 (.agg (fc F).toArray) (.int .i64 (i : Int))).run Try.prog w = .ok (.agg #[.bool (F.getD i tz).a, .int .i64 (F.getD i tz).p, .int .u64 (F.getD i tz).b, .int .u64 (F.getD i tz).n]) w := by
  have hu : Try.prog.underlying 67 = some (.array 16 66) := by kernel_rfl
  have hs : ∃ fs, Try.prog.underlying 66 = some (.struct fs) := ⟨_, Try.underlying66⟩
  obtain ⟨fs, hs⟩ := hs
  obtain ⟨d, hd⟩ : ∃ d, Try.prog.info? 66 = some d := Option.isSome_iff_exists.1 (show (Try.prog.info? 66).isSome = true by kernel_rfl)
  have hc : Try.prog.cellsOf 66 = 4 := by kernel_rfl
  have hr : (0 : Int) ≤ (i : Int) ∧ (i : Int) < (16 : Nat) := by omega
  have he : ((fc F).toArray.extract (i * 4) (i * 4 + 4)) = #[.bool (F.getD i tz).a, .int .i64 (F.getD i tz).p, .int .u64 (F.getD i tz).b, .int .u64 (F.getD i tz).n] := by
    apply Array.toList_inj.1
    rw [Array.toList_extract]
    simp only [List.extract, Nat.add_sub_cancel_left]
    exact fc_seg F i (by omega)
  simp only [Instr.index, asIntOf, Sem.run_bind, Sem.run_pure, Result.andThen_ok, run_underlying hu, if_pos hr, run_sizeOf w hd, hc, part, isAgg, run_underlying hs, Int.toNat_natCast, if_true, he]
theorem count_take (F : List Tw) (p : Tw → Bool) (i : Nat) (h : i < F.length) : (F.take (i + 1)).countP p = (F.take i).countP p + if p (F.getD i tz) = true then 1 else 0 := by
  rw [List.take_add_one, List.getElem?_eq_getElem h, List.countP_append, List.getD_eq_getElem?_getD, List.getElem?_eq_getElem h]
  simp [List.countP_cons]
set_option maxRecDepth 100000 in
theorem kids_yes (F : List Tw) (b : Nat) (id : Int) (w : World) (h : At w b 69 F) (h3 : aliveF F id = true) :
    Calls Try.prog 19 #[.pointer (some ⟨b, 0, none⟩), .int .i64 id] w fun e w' => e = .returned (.int .i64 (kidsF F id : Nat)) ∧ Below w.heap.size w w' := by
  have AC := Lib.hid (alive_calls F b id w h)
  have HZ := Lib.hid (show (Try.prog.info? 67).map (·.size) = some (fc F).toArray.size by rw [List.size_toArray, fc_len, h.1]; kernel_rfl)
  have HH := Lib.hid h
  have HK := Lib.hid (show kidsF F id = F.countP (fun t => t.a && t.p == id) by unfold kidsF; rw [if_pos h3])
  clear h
  go_enter Try.func19, Try.ntmps19
  go_wp2_with (first | (go_at_call 21; refine AC.out.mono ?_; rintro e w' ⟨rfl, rfl⟩) | (refine wpList_load_row rfl 67 (.tmp 14) rfl b rfl 69 (fc F).toArray (0, 0) (.array 16 66) HH.out.2 (by kernel_rfl) rfl HZ.out ?_))
  go_loopw [5, 16] (fun n i wr => ∃ k : Nat, k ≤ 16 ∧ i = .int .i64 k ∧ n = .int .i64 ((F.take k).countP (fun t => t.a && t.p == id) : Nat) ∧ Below w.heap.size w wr) (fun _ i _ => 16 - (intOf i).toNat)
  case atStart => exact ⟨0, by omega, rfl, rfl, Below.refl _ _⟩
  case round =>
    obtain ⟨k, hk, rfl, rfl, HB⟩ := hrel
    have hc := List.countP_le_length (p := fun t : Tw => t.a && t.p == id) (l := F.take k)
    have hl : (F.take k).length ≤ k := List.length_take_le _ _
    by_cases hlt : k < 16
    · have IX := index_twig F HH.out.1 k hlt
      have CT := count_take F (fun t => t.a && t.p == id) k (by rw [HH.out.1]; exact hlt)
      obtain ⟨⟨ta, tp, tb, tn⟩, ht⟩ : ∃ t, F.getD k tz = t := ⟨_, rfl⟩
      rw [ht] at IX CT
      clear ht
      have HB2 := Lib.hid (HB.alloc HB.size (Obj.cells #[Value.bool ta, .int .i64 tp, .int .u64 tb, .int .u64 tn] 66))
      clear HB
      cases hta : ta with
      | false =>
        subst hta
        have CT' := Lib.hid (show (F.take (k + 1)).countP (fun t => t.a && t.p == id) = (F.take k).countP (fun t => t.a && t.p == id) by rw [CT]; simp)
        clear CT
        go_wp2
        go_roundw
        case rel => exact ⟨k + 1, by omega, by go_num, by rw [CT'.out], HB2.out⟩
        case measure => simp [intOf]; omega
      | true =>
        subst hta
        cases hp : (tp == id) with
        | false =>
          have CT' := Lib.hid (show (F.take (k + 1)).countP (fun t => t.a && t.p == id) = (F.take k).countP (fun t => t.a && t.p == id) by rw [CT]; simp [hp])
          clear CT
          go_wp2
          go_roundw
          case rel => exact ⟨k + 1, by omega, by go_num, by rw [CT'.out], HB2.out⟩
          case measure => simp [intOf]; omega
        | true =>
          have CT' := Lib.hid (show (F.take (k + 1)).countP (fun t => t.a && t.p == id) = (F.take k).countP (fun t => t.a && t.p == id) + 1 by rw [CT]; simp [hp])
          clear CT
          go_wp2
          go_roundw
          case rel => exact ⟨k + 1, by omega, by go_num, by rw [CT'.out]; go_num, HB2.out⟩
          case measure => simp [intOf]; omega
    · have HB := Lib.hid HB
      have hk16 := Lib.hid (show F.take k = F by rw [List.take_of_length_le]; rw [HH.out.1]; omega)
      go_wp2
      go_ret
      exact ⟨ret_i (by rw [HK.out, hk16.out]), HB.out⟩
set_option maxRecDepth 100000 in
theorem kids_calls (F : List Tw) (b : Nat) (id : Int) (w : World) (h : At w b 69 F) :
    Calls Try.prog 19 #[.pointer (some ⟨b, 0, none⟩), .int .i64 id] w fun e w' => e = .returned (.int .i64 (kidsF F id : Nat)) ∧ Below w.heap.size w w' := by
  by_cases h3 : aliveF F id = true
  · exact kids_yes F b id w h h3
  · replace h3 : aliveF F id = false := by simpa using h3
    have AC := Lib.hid (alive_calls F b id w h)
    have HK := Lib.hid (show kidsF F id = 0 by unfold kidsF; rw [h3]; rfl)
    go_enter Try.func19, Try.ntmps19
    go_wp2_with (go_at_call 21; refine AC.out.mono ?_; rintro e w' ⟨rfl, rfl⟩)
    go_ret
    exact ⟨ret_i (by rw [HK.out]; rfl), Below.refl _ _⟩
set_option maxRecDepth 100000 in
theorem kids_nil (id : Int) (w : World) : Calls Try.prog 19 #[.pointer none, .int .i64 id] w fun e w' => e = .returned (.int .i64 0) ∧ w = w' := by
  have AC := Lib.hid (alive_nil id w)
  go_enter Try.func19, Try.ntmps19
  go_wp2_with (go_at_call 21; refine AC.out.mono ?_; rintro e w' ⟨rfl, rfl⟩)
  go_ret
  exact ⟨rfl, rfl⟩
theorem num_nil (id : Int) (w : World) : Calls Try.prog 15 #[.pointer none, .int .i64 id] w fun e w' => e = .returned (.tuple #[.int .u64 0, .bool false]) ∧ w = w' := by
  have AC := Lib.hid (alive_nil id w)
  go_enter Try.func15, Try.ntmps15
  go_wp2_with (go_at_call 21; refine AC.out.mono ?_; rintro e w' ⟨rfl, rfl⟩)
  go_ret2
  exact ⟨rfl, rfl⟩
theorem parent_nil (id : Int) (w : World) : Calls Try.prog 16 #[.pointer none, .int .i64 id] w fun e w' => e = .returned (.tuple #[.int .i64 0, .int .u64 0, .bool false]) ∧ w = w' := by
  have AC := Lib.hid (alive_nil id w)
  by_cases hz : id = 0
  · subst hz
    go_enter Try.func16, Try.ntmps16
    go_wp2
    go_ret3
    exact ⟨rfl, rfl⟩
  · have hz' : (id == 0) = false := by simpa using hz
    go_enter Try.func16, Try.ntmps16
    go_wp2_with (go_at_call 21; refine AC.out.mono ?_; rintro e w' ⟨rfl, rfl⟩)
    go_ret3
    exact ⟨rfl, rfl⟩
theorem drop_nil (id : Int) (w : World) : Calls Try.prog 12 #[.pointer none, .int .i64 id] w fun e w' => e = .returned (.int .i64 1) ∧ w = w' := by
  go_enter Try.func12, Try.ntmps12
  go_wp2
  go_ret
  exact ⟨rfl, rfl⟩
def DropPost (F : List Tw) (b : Nat) (id : Int) (w : World) (e : Ending) (w' : World) : Prop := e = .returned (.int .i64 (dropC F id)) ∧ At w' b 69 (dropF F id) ∧ Chg (· = b) w w'
theorem drop_same {F : List Tw} {b : Nat} {id : Int} {w w' : World} (h : At w b 69 F) (hb : Below w.heap.size w w') {c : Int} (hc : dropC F id = c) (hn : c ≠ 0) : DropPost F b id w (.returned (.int .i64 c)) w' :=
  ⟨ret_i hc.symm, by rw [drop_no (by rw [hc]; exact hn)]; exact h.below hb, .of_below hb⟩
theorem drop_store {F : List Tw} {b : Nat} {id : Int} {w w' : World} (h : At w b 69 F) (hb : Below w.heap.size w w') (hc : dropC F id = 0) (hi : id.toNat < 16) :
    DropPost F b id w (.returned (.int .i64 0)) ((((w'.setCell { block := b, off := id.toNat * 4 } (.bool false)).setCell { block := b, off := id.toNat * 4 + 1 } (.int .i64 0)).setCell { block := b, off := id.toNat * 4 + 2 } (.int .u64 0)).setCell { block := b, off := id.toNat * 4 + 3 } (.int .u64 0)) := by
  have e : dropF F id = F.set id.toNat tz := if_pos hc
  have k := (h.below hb).put4 hi tz
  rw [← e] at k
  exact ⟨ret_i hc.symm, k, (Chg.of_below hb).trans (chg4 w' b id.toNat _ _ _ _)⟩
set_option maxRecDepth 100000 in
theorem drop_calls (F : List Tw) (b : Nat) (id : Int) (w : World) (h : At w b 69 F) : Calls Try.prog 12 #[.pointer (some ⟨b, 0, none⟩), .int .i64 id] w (DropPost F b id w) := by
  by_cases hz : id = 0
  · subst hz
    have HC := Lib.hid (show dropC F 0 = 7 from rfl)
    have HH := Lib.hid h
    clear h
    go_enter Try.func12, Try.ntmps12
    go_wp2
    go_ret
    exact drop_same HH.out (Below.refl _ _) HC.out (by decide)
  have hz' : (id == 0) = false := by simpa using hz
  by_cases h3 : aliveF F id = true
  case neg =>
    replace h3 : aliveF F id = false := by simpa using h3
    have HC := Lib.hid (show dropC F id = 4 by unfold dropC; rw [if_neg hz, if_pos h3])
    have AC := Lib.hid (alive_calls F b id w h)
    have HH := Lib.hid h
    clear h hz
    go_enter Try.func12, Try.ntmps12
    go_wp2_with (go_at_call 21; refine AC.out.mono ?_; rintro e w' ⟨rfl, rfl⟩)
    go_ret
    exact drop_same HH.out (Below.refl _ _) HC.out (by decide)
  obtain ⟨g0, g1⟩ := alive_range h3
  have AC := Lib.hid (alive_calls F b id w h)
  have KC := Lib.hid (kids_calls F b id w h)
  have HI := Lib.hid (show id.toNat < 16 by omega)
  by_cases h4 : 0 < kidsF F id
  · have HC := Lib.hid (show dropC F id = 12 by unfold dropC; rw [if_neg hz, if_neg (by rw [h3]; decide), if_pos h4])
    have HH := Lib.hid h
    clear h hz
    go_enter Try.func12, Try.ntmps12
    go_wp2_with (first | (go_at_call 21; refine AC.out.mono ?_; rintro e w' ⟨rfl, rfl⟩) | (go_at_call 19; refine KC.out.mono ?_; rintro e w1 ⟨rfl, hb⟩; replace hb := Lib.hid hb))
    go_ret
    exact drop_same HH.out (Hid.out ‹_›) HC.out (by decide)
  · have h5 : kidsF F id = 0 := by omega
    have HC := Lib.hid (show dropC F id = 0 by unfold dropC; rw [if_neg hz, if_neg (by rw [h3]; decide), if_neg h4])
    have HH := Lib.hid h
    clear h hz h4
    rw [h5] at KC
    clear h5
    go_enter Try.func12, Try.ntmps12
    go_upto_region 9 with (first | (go_at_call 21; refine AC.out.mono ?_; rintro e w' ⟨rfl, rfl⟩) | (go_at_call 19; refine KC.out.mono ?_; rintro e w1 ⟨rfl, hb⟩; obtain ⟨c0, c1, c2, c3⟩ := (HH.out.below hb).cells g0 g1; have fz := fun o => frozen_of_row w1 b o (fc F).toArray 69 (HH.out.below hb).2; replace hb := Lib.hid hb))
    go_wp2
    go_ret
    exact drop_store HH.out (Hid.out ‹_›) HC.out HI.out
/-! ### Line -/
def LineYes (L : List St) (w : World) (e : Ending) (w' : World) : Prop := ∃ blk cap, e = .returned (.tuple #[.slice (some ⟨blk, 0, none⟩) L.length cap, .int .i64 0]) ∧ w.heap.size ≤ blk ∧ Sts w' blk L ∧ Below w.heap.size w w'
theorem step_info : (Try.prog.info? 36).map (fun i => (i.zero, i.size, i.bytes)) = some (some (.agg #[.int .i64 0, .int .u64 0, .int .u64 0]), 3, 24) := by kernel_rfl
structure Upto (F : List Tw) (id m : Int) (done : List St) (cur : Int) : Prop where
  ne : done ≠ []
  eq : done ++ tailF F cur = lineF F id m
theorem Upto.len {F : List Tw} {id m : Int} {done : List St} {cur : Int} (h : Upto F id m done cur) (ok : Ok F) (ha : aliveF F id = true) : done.length ≤ 1000 := by
  have h1 := congrArg List.length h.eq
  have h2 := tail_len17 ok ha
  unfold lineF at h1
  rw [List.length_append, List.length_cons] at h1
  omega
theorem Upto.step {F : List Tw} {id m : Int} {done : List St} {cur : Int} (h : Upto F id m done cur) (ok : Ok F) (hc : aliveF F cur = true) (hz : cur ≠ 0) : Upto F id m (done ++ [((tw F cur).p, (tw F (tw F cur).p).n, (tw F cur).b)]) (tw F cur).p := by
  refine ⟨by simp, ?_⟩
  rw [← h.eq, tailF_son ok hc hz, List.append_assoc]
  rfl
theorem Upto.done {F : List Tw} {id m : Int} {done : List St} (h : Upto F id m done 0) : done = lineF F id m := by
  have := h.eq
  rw [tailF_zero, List.append_nil] at this
  exact this
theorem own_first (w : World) (e : TypeId) (s : St) : (w.alloc (.cells #[.int .i64 s.1, .int .u64 s.2.1, .int .u64 s.2.2] e)).ownsRow w.heap.size e 3 (.slice (some { block := w.heap.size, off := 0 }) 1 1) [s].length (stcs [s]) :=
  ⟨rfl, .inr ⟨w.heap.size, 1, _, rfl, Nat.le_refl _, heap_alloc_new w _, Nat.le_refl _, by decide, rfl, rfl⟩⟩
set_option maxRecDepth 100000 in
set_option maxHeartbeats 1000000 in
theorem line_yes (F : List Tw) (ok : Ok F) (b : Nat) (id m : Int) (w : World) (h : At w b 69 F) (h3 : aliveF F id = true) (h4 : (tw F id).n ≤ m) :
    Calls Try.prog 14 #[.pointer (some ⟨b, 0, none⟩), .int .i64 id, .int .u64 m] w (LineYes (lineF F id m) w) := by
  have NC := Lib.hid (num_calls F b id w h)
  have HN := Lib.hid (show numF F id = (tw F id).n by unfold numF; rw [if_pos h3])
  obtain ⟨i0, hi, hz0, hz1, hz2⟩ := info_parts step_info
  have HH := Lib.hid h
  have HLT := Lib.hid h.lt
  clear h
  have hd : decide (m < (tw F id).n) = false := decide_eq_false (by omega)
  go_enter Try.func14, Try.ntmps14
  rw [HN.out] at NC
  go_wp2_with (go_at_call 15; refine NC.out.mono ?_; rintro e w' ⟨rfl, rfl⟩)
  go_loopw [1, 10] (fun v1 v10 wr => ∃ (cur : Int) (done : List St), v1 = .int .i64 cur ∧ aliveF F cur = true ∧ Upto F id m done cur ∧ Hid (wr.ownsRow w.heap.size 36 3 v10 done.length (stcs done)) ∧ Hid (Below w.heap.size w wr)) (fun v1 _ _ => (tw F (intOf v1)).n.toNat)
  case atStart =>
    exact ⟨id, [(id, (tw F id).n, m)], rfl, h3, ⟨by simp, rfl⟩, own_first w 36 (id, (tw F id).n, m), below_alloc (Below.refl _ _) _⟩
  case round =>
    obtain ⟨cur, done, rfl, hcur, HD, HO, HB⟩ := hrel
    by_cases hz : cur = 0
    · subst hz
      obtain ⟨blk, cap, hv, hb1, hb2, hst⟩ := Sts.of_owns HO.out HD.ne
      have hdn := HD.done
      subst hdn
      have HST := Lib.hid hst
      have HV := Lib.hid hv
      clear hv hst
      go_wp2
      go_ret2
      exact ⟨blk, cap, ret_2 HV.out rfl, hb1, HST.out, HB.out⟩
    · have hz' : (cur != 0) = true := by simpa using hz
      obtain ⟨r0, r1⟩ := alive_range hcur
      have HF := HH.out.below HB.out
      obtain ⟨c0, c1, c2, c3⟩ := HF.cells r0 r1
      have hson := ok.son cur (isSon_of hcur hz)
      obtain ⟨q0, q1⟩ := alive_range hson.1
      obtain ⟨d0, d1, d2, d3⟩ := HF.cells q0 q1
      have HBLT := Lib.hid (Nat.lt_of_lt_of_le HLT.out HB.out.size)
      have hne : b ≠ wr.heap.size := by have := HBLT.out; omega
      go_wp2
      have HW1 : Below w.heap.size w (wr.alloc (Obj.cells #[Value.bool (tw F cur).a, Value.int IntKind.i64 (tw F cur).p, Value.int IntKind.u64 (tw F cur).b, Value.int IntKind.u64 (tw F cur).n] 66)) := below_alloc HB.out _
      have HO1 := HO.out.alloc (Obj.cells #[Value.bool (tw F cur).a, Value.int IntKind.i64 (tw F cur).p, Value.int IntKind.u64 (tw F cur).b, Value.int IntKind.u64 (tw F cur).n] 66)
      have e1 : (wr.alloc (Obj.cells #[Value.bool (tw F cur).a, Value.int IntKind.i64 (tw F cur).p, Value.int IntKind.u64 (tw F cur).b, Value.int IntKind.u64 (tw F cur).n] 66)).cell? { block := wr.heap.size, off := 2 } = some (.int .u64 (tw F cur).b) := cell_of_row _ _ _ _ _ (0, 0) (heap_alloc_new wr _)
      have HF1 := HH.out.below HW1
      obtain ⟨f0, f1, f2, f3⟩ := HF1.cells q0 q1
      have HZ1 := HW1.size
      generalize (wr.alloc (Obj.cells #[Value.bool (tw F cur).a, Value.int IntKind.i64 (tw F cur).p, Value.int IntKind.u64 (tw F cur).b, Value.int IntKind.u64 (tw F cur).n] 66)) = W1 at *
      replace HW1 := Lib.hid HW1
      replace HO1 := Lib.hid HO1
      replace HF1 := Lib.hid HF1
      clear c0 c1 c2 c3 d0 d1 d2 d3 f0 f1 f2 hne HF
      have HL1 : done.length ≤ 1000 := HD.len ok h3
      have HD2 := HD.step ok hcur hz
      have HM := Lib.hid (show (tw F (tw F cur).p).n.toNat < (tw F cur).n.toNat by have := ok.pos (tw F cur).p; omega)
      go_region_law (refine step_append_cells (w0 := w) w.heap.size (by rfl) (.tmp 40) (.tmp 52) 32 36 (.agg #[.int .i64 0, .int .u64 0, .int .u64 0]) 3 24 (by rfl) Try.underlying32 step_info rfl (by decide) (by decide) u10 done.length (stcs done) [.int .i64 (tw F cur).p, .int .u64 (tw F (tw F cur).p).n, .int .u64 (tw F cur).b] (by simp [Act.eval, Act.put]) (by simp [Act.eval, Act.put]) rfl (by simp [Value.oneCell']) (own_drew HO1.out) (below_drew1 HW1.out) HZ1 (by omega) ?_; intro v1 w1 ho1 hb1 _ _; replace ho1 := Lib.hid ho1; replace hb1 := Lib.hid hb1)
      all_goals
        go_simp
        go_wp2
        go_roundw
        case rel => exact ⟨(tw F cur).p, done ++ [((tw F cur).p, (tw F (tw F cur).p).n, (tw F cur).b)], rfl, hson.1, HD2, by rw [stcs_append, List.length_append]; exact (Hid.out ‹Hid (World.ownsRow _ _ _ _ _ _ _)›), Hid.out ‹Hid (Below _ _ _)›⟩
        case measure => simp only [intOf]; exact HM.out
set_option maxRecDepth 100000 in
theorem line_no (F : List Tw) (b : Nat) (id m : Int) (w : World) (h : At w b 69 F) (h3 : aliveF F id = false ∨ m < (tw F id).n) :
    Calls Try.prog 14 #[.pointer (some ⟨b, 0, none⟩), .int .i64 id, .int .u64 m] w fun e w' => e = .returned (.tuple #[.slice none 0 0, .int .i64 4]) ∧ w = w' := by
  have NC := Lib.hid (num_calls F b id w h)
  cases ha : aliveF F id with
  | false =>
    rw [ha] at NC
    go_enter Try.func14, Try.ntmps14
    go_wp2_with (go_at_call 15; refine NC.out.mono ?_; rintro e w' ⟨rfl, rfl⟩)
    go_ret2
    exact ⟨rfl, rfl⟩
  | true =>
    have h4 : m < (tw F id).n := h3.resolve_left (by rw [ha]; decide)
    rw [ha, show numF F id = (tw F id).n by unfold numF; rw [if_pos ha]] at NC
    clear h3
    go_enter Try.func14, Try.ntmps14
    go_wp2_with (go_at_call 15; refine NC.out.mono ?_; rintro e w' ⟨rfl, rfl⟩)
    go_ret2
    exact ⟨rfl, rfl⟩
theorem line_nil (id m : Int) (w : World) : Calls Try.prog 14 #[.pointer none, .int .i64 id, .int .u64 m] w fun e w' => e = .returned (.tuple #[.slice none 0 0, .int .i64 4]) ∧ w = w' := by
  have NC := Lib.hid (num_nil id w)
  go_enter Try.func14, Try.ntmps14
  go_wp2_with (go_at_call 15; refine NC.out.mono ?_; rintro e w' ⟨rfl, rfl⟩)
  go_ret2
  exact ⟨rfl, rfl⟩
end Go.Proofs.Ytaolpniigjmccaa.All
