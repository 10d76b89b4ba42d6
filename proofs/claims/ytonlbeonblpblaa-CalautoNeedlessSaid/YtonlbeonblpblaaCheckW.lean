/-
  All clashes: the program's answer. No condition but that the rules lie as their row says, and are few.
-/
import Derived.Test.YtonlbeonblpblaaWhy
namespace Go.Proofs.Ytonlbeonblpblaa.All
open Go.RowKit Go.Proofs.YtonlbeonblpblaaW.PrintWords Go.Proofs.YtonlbeonblpblaaW.PrintLast Go.Proofs.YtonlbeonblpblaaW.PrintMore Go.Proofs.Ytonlbeonblpblaa.Wd
set_option linter.unusedVariables false
set_option linter.unusedSimpArgs false
private theorem ym (motive : Option Value → Sort _) (h1 : (b : Bool) → motive (some (.bool b))) (h2 : (x : Option Value) → motive x) : Go.yielded.match_1 motive (some undef) h1 h2 = h2 (some undef) := rfl
attribute [local go_sem, local simp] ym
def clc (c : Cl) : List Value := [.int .i64 c.i, .int .i64 c.j, .int .i64 c.y]
def cls (L : List Cl) : List Value := L.flatMap clc
theorem cls_app (M L : List Cl) : cls (M ++ L) = cls M ++ cls L := by simp [cls, List.flatMap_append]
theorem cls_get : ∀ (M : List Cl) (i j : Nat) (h : i < M.length), j < 3 → (cls M)[i * 3 + j]? = (clc M[i])[j]?
  | x :: M, 0, j, _, hj => by
    show (clc x ++ cls M)[0 * 3 + j]? = _
    rw [Nat.zero_mul, Nat.zero_add, List.getElem?_append_left (show j < (clc x).length from hj)]
    rfl
  | x :: M, i + 1, j, h, hj => by
    show (clc x ++ cls M)[(i + 1) * 3 + j]? = _
    rw [List.getElem?_append_right (by rw [show (clc x).length = 3 from rfl]; omega), show (clc x).length = 3 from rfl, show (i + 1) * 3 + j - 3 = i * 3 + j by omega, cls_get M i j (by simpa using h) hj]
    rfl
theorem clash_info : (Try.prog.info? 69).map (fun i => (i.zero, i.size, i.bytes)) = some (some (.agg #[.int .i64 0, .int .i64 0, .int .i64 0]), 3, 24) := by kernel_rfl
/-- What Check keeps. -/
structure CK (w wr : World) (v : Value) (xs : List Cl) : Prop where
  own : wr.ownsRow w.heap.size 69 3 v xs.length (cls xs)
  bel : Below w.heap.size w wr
theorem CK.below {w wr w2 : World} {v : Value} {xs : List Cl} (h : CK w wr v xs) (hb : Below wr.heap.size wr w2) : CK w w2 v xs := ⟨own_below h.own hb, h.bel.trans (hb.mono h.bel.size)⟩
theorem ck_app {w wr w6 : World} {A9 : Option Addr} {c9 : Nat} {v : Value} {xs : List Cl} {c : Cl} {o : Obj} (h : CK w wr (.slice A9 xs.length c9) xs) (ho : w6.ownsRow w.heap.size 69 3 v (xs.length + 1) (cls xs ++ clc c)) (hg : (wr.alloc o).grownBy w6 (Value.slice A9 xs.length c9).ownBlock) : CK w w6 v (xs ++ [c]) := by
  have h1 : Below w.heap.size w (wr.alloc o) := below_alloc h.bel _
  refine ⟨?_, h1.grown hg h1.size (own_base h.own)⟩
  rw [cls_app, List.length_append]
  exact ho
theorem ck_zero {w wr : World} {v : Value} {R : List Ru} {i : Nat} (h : Hid (CK w wr v (chk R i))) : Hid (CK w wr v (chk R i ++ row R i 0)) := by
  have : row R i 0 = [] := rfl
  rw [this, List.append_nil]
  exact h
theorem ck_next {w wr : World} {v : Value} {R : List Ru} {i : Nat} (h : Hid (CK w wr v (chk R i ++ row R i R.length))) : Hid (CK w wr v (chk R (i + 1))) := by
  rw [chk_succ]
  exact h
theorem row_out {R : List Ru} {i m : Nat} (h : i = m ∨ whyP (R.getD i zr) (R.getD m zr) (decide (m < i)) = 0) : row R i (m + 1) = row R i m := by
  rw [row_succ]
  unfold one
  rcases h with h | h
  · rw [if_pos h, List.append_nil]
  · by_cases e : i = m
    · rw [if_pos e, List.append_nil]
    · rw [if_neg e, if_pos h, List.append_nil]
theorem row_in {R : List Ru} {i m : Nat} (h : i ≠ m) (h2 : whyP (R.getD i zr) (R.getD m zr) (decide (m < i)) ≠ 0) : row R i (m + 1) = row R i m ++ [⟨i, m, whyP (R.getD i zr) (R.getD m zr) (decide (m < i))⟩] := by
  rw [row_succ]
  unfold one
  rw [if_neg h, if_neg h2]
set_option maxRecDepth 100000 in
set_option maxHeartbeats 4000000 in
theorem check_calls {R : List Ru} {A0 : Option Addr} {c0 : Nat} {w : World} (hR : RuRow w w.heap.size A0 R) (hL : R.length ≤ 16) :
    Calls Try.prog 27 #[.slice A0 R.length c0] w fun e w' => ∃ v, e = .returned v ∧ CK w w' v (chk R R.length) := by
  obtain ⟨ic, hic, zr0, zr1, zr2⟩ := info_parts clash_info
  replace hic := Lib.hid hic
  replace hR := Lib.hid hR
  have H0 : Hid (CK w w (.slice none 0 0) (chk R 0)) := Lib.hid ⟨⟨rfl, .inl ⟨rfl, rfl⟩⟩, Below.refl _ _⟩
  go_enter Try.func27, Try.ntmps27
  go_wp2
  go_loopw [3, 9] (fun v3 v9 wr => ∃ i, v9 = .int .i64 (i : Nat) ∧ i ≤ R.length ∧ Hid (CK w wr v3 (chk R i))) (fun _ v9 _ => R.length - (intOf v9).toNat)
  case atStart => exact ⟨0, rfl, Nat.zero_le _, H0⟩
  case round =>
    clear H0
    obtain ⟨i, rfl, hi, H0⟩ := hrel
    by_cases hlt : i < R.length
    · have H1 := ck_zero H0
      have hcl := chk_len R i
      have hcl2 : i * R.length ≤ 15 * 16 := Nat.mul_le_mul (by omega) hL
      have q1 : decide ((i : Int) < (R.length : Int)) = true := decide_eq_true (by omega)
      have d1 : IntKind.i64.wrap ((i : Int) + 1) = (i : Int) + 1 := IntWalk.i64_in _ (by omega)
      clear H0
      go_wp2
      go_loopw [3, 14] (fun v3 v14 wr => ∃ m, v14 = .int .i64 (m : Nat) ∧ m ≤ R.length ∧ Hid (CK w wr v3 (chk R i ++ row R i m))) (fun _ v14 _ => R.length - (intOf v14).toNat)
      case atStart => exact ⟨0, rfl, Nat.zero_le _, H1⟩
      case round =>
        clear H1
        obtain ⟨m, rfl, hm, H1⟩ := hrel
        by_cases hmt : m < R.length
        · have q2 : decide ((m : Int) < (R.length : Int)) = true := decide_eq_true (by omega)
          have d2 : IntKind.i64.wrap ((m : Int) + 1) = (m : Int) + 1 := IntWalk.i64_in _ (by omega)
          by_cases hne : i = m
          · have q3 : ((i : Int) == (m : Int)) = true := beq_iff_eq.2 (by omega)
            have q4 : (i == m) = true := beq_iff_eq.2 hne
            have HR := Lib.hid (row_out (R := R) (Or.inl hne))
            clear hne
            go_wp2
            go_roundw
            case rel => exact ⟨m + 1, by go_num, by omega, by rw [HR.out]; exact H1⟩
            case measure => simp [intOf]; omega
          · have q3 : ((i : Int) == (m : Int)) = false := beq_eq_false_iff_ne.2 (by omega)
            have q4 : (i == m) = false := beq_eq_false_iff_ne.2 hne
            have WC := Lib.hid (why_calls (c0 := c0) (hR.out.up H1.out.bel) hlt hmt (by omega))
            have HO := Lib.hid (fun h => row_out (R := R) (i := i) (m := m) (Or.inr h))
            have HI := Lib.hid (fun h => row_in (R := R) (i := i) (m := m) hne h)
            have hrl := row_len R i m
            generalize whyP (R.getD i zr) (R.getD m zr) (decide (m < i)) = y at *
            by_cases hy : y = 0
            · have q5 : (y == 0) = true := beq_iff_eq.2 hy
              have HR := Lib.hid (HO.out hy)
              clear HO HI
              go_wp2_with (go_at_call 45; (with_reducible refine WC.out.mono ?_); rintro e w2 ⟨rfl, hb2⟩; have H2 := Lib.hid (H1.out.below hb2); clear hb2 WC)
              go_roundw
              case rel => exact ⟨m + 1, by go_num, by omega, by rw [HR.out]; exact H2⟩
              case measure => simp [intOf]; omega
            · have q5 : (y == 0) = false := beq_eq_false_iff_ne.2 hy
              have HR := Lib.hid (HI.out hy)
              clear HO HI hy
              obtain ⟨A3, c3, rfl, hcap3⟩ := own_slice_cap H1.out.own
              have hxl : (chk R i ++ row R i m).length ≤ 300 := by rw [List.length_append]; omega
              have HR2 := Lib.hid (show chk R i ++ row R i (m + 1) = (chk R i ++ row R i m) ++ [⟨i, m, y⟩] by rw [HR.out, List.append_assoc])
              generalize chk R i ++ row R i m = xs at *
              have hx0 := Lib.hid (show xs.length + 1 ≤ maxLen ∧ (xs.length + 1) * 24 ≤ 140737488355328 by unfold maxLen; omega)
              go_wp2_with (first
                | (go_at_call 45; (with_reducible refine WC.out.mono ?_); rintro e w2 ⟨rfl, hb2⟩; have H2 := Lib.hid (H1.out.below hb2); clear hb2 WC)
                | (at_builtin
                   refine wpList_append_any _ rfl _ _ 66 rfl w.heap.size 69 ic _ 3 24 Try.underlying66 hic.out zr0 zr1 zr2 rfl (by decide) _ _ _ rfl (World.ownsRow.alloc H2.out.own (.cells #[.int .i64 i, .int .i64 m, .int .i64 y] 69)) _ _ 1 1 (clc ⟨i, m, y⟩) rfl (reads3 (heap_alloc_new w2 (.cells #[.int .i64 i, .int .i64 m, .int .i64 y] 69))) (by unfold clc; simp [Value.oneCell']) hx0.out.1 hx0.out.2 (by have := H2.out.bel.size; simp; omega) ?_
                   intro v6 w6 ho6 hg6 ha6
                   have H6 := Lib.hid (ck_app H2.out ho6 hg6)
                   clear ho6 hg6 ha6))
              go_roundw
              case rel => exact ⟨m + 1, by go_num, by omega, by rw [HR2.out]; exact H6⟩
              case measure => simp [intOf]; omega
        · obtain rfl : m = R.length := by omega
          have H3 := ck_next H1
          go_wp2
          go_roundw
          case rel => exact ⟨i + 1, by go_num, by omega, H3⟩
          case measure => simp [intOf]; omega
    · obtain rfl : i = R.length := by omega
      go_wp2
      go_ret
      exact ⟨_, rfl, H0.out⟩
end Go.Proofs.Ytonlbeonblpblaa.All
