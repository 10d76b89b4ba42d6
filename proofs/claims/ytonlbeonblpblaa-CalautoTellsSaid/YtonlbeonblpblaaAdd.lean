/-
  A moment more in a table. No condition but that the table lies as its row says, its numbers rise and its minutes are minutes, and it is short.
-/
import Derived.Test.YtonlbeonblpblaaLook
namespace Go.Proofs.Ytonlbeonblpblaa.All
open Go.RowKit Go.Proofs.YtonlbeonblpblaaW.PrintWords Go.Proofs.YtonlbeonblpblaaW.PrintLast Go.Proofs.YtonlbeonblpblaaW.PrintMore Go.Proofs.Ytonlbeonblpblaa.Wd
set_option linter.unusedVariables false
set_option linter.unusedSimpArgs false
private theorem ym (motive : Option Value → Sort _) (h1 : (b : Bool) → motive (some (.bool b))) (h2 : (x : Option Value) → motive x) : Go.yielded.match_1 motive (some undef) h1 h2 = h2 (some undef) := rfl
attribute [local go_sem, local simp] ym
/-- What a table's turning leaves: all that is no item and not the table's head; and what lay ahead of its row. -/
structure TK (base b : Nat) (w w' : World) : Prop where
  os : w'.os = w.os
  tape : w'.tape = w.tape
  output : w'.output = w.output
  size : w.heap.size ≤ w'.heap.size
  old : ∀ k, k < base → k < w.heap.size → k ≠ b → w'.heap[k]? = w.heap[k]?
  kind : ∀ k o, w.heap[k]? = some o → k ≠ b → (∀ cur, o ≠ .cells cur 80) → w'.heap[k]? = some o
theorem TK.refl (base b : Nat) (w : World) : TK base b w w := ⟨rfl, rfl, rfl, Nat.le_refl _, fun _ _ _ _ => rfl, fun _ _ h _ _ => h⟩
theorem TK.trans {base b : Nat} {x y z : World} (h : TK base b x y) (k : TK base b y z) : TK base b x z :=
  ⟨k.os.trans h.os, k.tape.trans h.tape, k.output.trans h.output, Nat.le_trans h.size k.size, fun i h1 h2 h3 => (k.old i h1 (Nat.lt_of_lt_of_le h2 h.size) h3).trans (h.old i h1 h2 h3), fun i o h1 h2 h3 => k.kind i o (h.kind i o h1 h2 h3) h2 h3⟩
theorem TK.of_below {base b : Nat} {w w' : World} (h : Below w.heap.size w w') : TK base b w w' :=
  ⟨h.os, h.tape, h.output, h.size, fun k _ h2 _ => h.block k h2, fun k o h1 _ _ => (h.block k (lt_heap h1)).trans h1⟩
theorem TK.setCell {base b : Nat} {w w' : World} (h : TK base b w w') (u : Value) (j : Nat) : TK base b w (w'.setCell { block := b, off := j } u) :=
  h.trans ⟨rfl, rfl, rfl, by simp [World.setCell], fun k _ _ hb => Below.heap_setCell _ _ _ _ hb, fun k o h1 h2 _ => (Below.heap_setCell _ _ _ _ h2).trans h1⟩
theorem TK.below {base b B : Nat} {w0 w w' : World} (h : TK base b w w') (hb : Below B w0 w) (h1 : B ≤ base) (h2 : B ≤ b) (hB : B ≤ w.heap.size) : Below B w0 w' :=
  ⟨h.os.trans hb.os, h.tape.trans hb.tape, h.output.trans hb.output, Nat.le_trans hb.size h.size, fun k hk => (h.old k (by omega) (by omega) (by omega)).trans (hb.block k hk)⟩
theorem own_size {w : World} {base : Nat} {e : TypeId} {size n : Nat} {v : Value} {xs : List Value} (h : w.ownsRow base e size v n xs) : ∀ g, v.ownBlock = some g → ∃ cur, w.heap[g]? = some (.cells cur e) := fun g hg => by
  rcases h.2 with ⟨rfl, _⟩ | ⟨q, cap, cur, rfl, _, hh, _⟩
  · cases hg
  · injection hg with hg
    subst hg
    exact ⟨cur, hh⟩
theorem TK.grown {base b : Nat} {w w' : World} {v : Value} {n : Nat} {xs : List Value} (ho : w.ownsRow base 80 3 v n xs) (hg : w.grownBy w' v.ownBlock) : TK base b w w' :=
  ⟨hg.os, hg.tape, hg.output, hg.size, fun k h1 h2 _ => hg.block k h2 (fun e => by have := own_base ho _ e.symm; omega), fun k o h1 _ h3 => (hg.block k (lt_heap h1) (fun e => by
    obtain ⟨cur, hc⟩ := own_size ho _ e.symm
    rw [hc] at h1
    injection h1 with h1
    exact h3 cur h1.symm)).trans h1⟩
/-- The error's number of a moment more. -/
def addC (M : List It) (num m : Int) : Int :=
  if num < 1 ∨ 65535 < num ∨ m < 0 ∨ 1073741824 < m then 2 else if 0 < M.length ∧ (num ≤ (M.getD (M.length - 1) ⟨0, 0, false⟩).n ∨ m < (M.getD (M.length - 1) ⟨0, 0, false⟩).m) then 15 else 0
def addM (M : List It) (num m : Int) : List It := if addC M num m = 0 then M ++ [⟨num, m, false⟩] else M
theorem item_info : (Try.prog.info? 80).map (fun i => (i.zero, i.size, i.bytes)) = some (some (.agg #[.int .u64 0, .int .i64 0, .bool false]), 3, 24) := by kernel_rfl
def AddPost (M : List It) (num m : Int) (base b : Nat) (w : World) (e : Ending) (w' : World) : Prop := e = .returned (.int .i64 (addC M num m)) ∧ (∃ A c, TAt w' base b A c (addM M num m)) ∧ TK base b w w'
theorem add_same {M : List It} {num m k : Int} {base b c : Nat} {A : Option Addr} {w : World} (h : TAt w base b A c M) (hc : addC M num m = k) (hk : k ≠ 0) : AddPost M num m base b w (.returned (.int .i64 k)) w :=
  ⟨by rw [hc], ⟨A, c, by unfold addM; rw [if_neg (by rw [hc]; exact hk)]; exact h⟩, TK.refl _ _ _⟩
set_option maxRecDepth 100000 in
set_option maxHeartbeats 2000000 in
theorem add_range {b : Nat} {w : World} (num m : Int) (hr : num < 1 ∨ 65535 < num ∨ m < 0 ∨ 1073741824 < m) :
    Calls Try.prog 26 #[.pointer (some ⟨b, 0, none⟩), .int .u64 num, .int .i64 m] w fun e w' => e = .returned (.int .i64 2) ∧ w = w' := by
  have hr' := Lib.hid hr
  clear hr
  by_cases h1 : num < 1
  · go_enter Try.func26, Try.ntmps26
    go_wp2
    go_ret
    exact ⟨rfl, rfl⟩
  by_cases h2 : 65535 < num
  · go_enter Try.func26, Try.ntmps26
    go_wp2
    go_ret
    exact ⟨rfl, rfl⟩
  by_cases h3 : m < 0
  · go_enter Try.func26, Try.ntmps26
    go_wp2
    go_ret
    exact ⟨rfl, rfl⟩
  have h4 : 1073741824 < m := by have := hr'.out; omega
  go_enter Try.func26, Try.ntmps26
  go_wp2
  go_ret
  exact ⟨rfl, rfl⟩
set_option maxRecDepth 100000 in
set_option maxHeartbeats 2000000 in
theorem add_past {M : List It} {A : Option Addr} {base b c : Nat} {w : World} (h : TAt w base b A c M) (num m : Int) (hr : ¬ (num < 1 ∨ 65535 < num ∨ m < 0 ∨ 1073741824 < m)) (h0 : 0 < M.length) (hl : M.length ≤ 1000) (hp : num ≤ (M.getD (M.length - 1) ⟨0, 0, false⟩).n ∨ m < (M.getD (M.length - 1) ⟨0, 0, false⟩).m) :
    Calls Try.prog 26 #[.pointer (some ⟨b, 0, none⟩), .int .u64 num, .int .i64 m] w fun e w' => e = .returned (.int .i64 15) ∧ w = w' := by
  obtain ⟨r1, r2, r3, r4⟩ : ¬ num < 1 ∧ ¬ 65535 < num ∧ ¬ m < 0 ∧ ¬ 1073741824 < m := ⟨by omega, by omega, by omega, by omega⟩
  have hlt : M.length - 1 < M.length := by omega
  have hc := h.cell
  obtain ⟨q, rfl, hq, hcc⟩ := h.row h0
  obtain ⟨e0, e1, e2⟩ := hcc _ hlt
  have ex : M.getD (M.length - 1) ⟨0, 0, false⟩ = M[M.length - 1] := by rw [List.getD_eq_getElem?_getD, List.getElem?_eq_getElem hlt]; rfl
  rw [ex] at hp
  clear hcc ex h hr
  generalize M[M.length - 1] = x at *
  have d1 : IntKind.i64.wrap ((M.length : Int) - 1) = (M.length : Int) - 1 := IntWalk.i64_in _ (by omega)
  have hnn : ((M.length : Int) - 1).toNat = M.length - 1 := by omega
  by_cases h5 : num ≤ x.n
  · go_enter Try.func26, Try.ntmps26
    go_wp2
    go_ret
    exact ⟨rfl, rfl⟩
  · have h6 : m < x.m := by omega
    clear hp
    go_enter Try.func26, Try.ntmps26
    go_wp2
    go_ret
    exact ⟨rfl, rfl⟩
theorem itcs_one (M : List It) (x : It) : itcs (M ++ [x]) = itcs M ++ [.int .u64 x.n, .int .i64 x.m, .bool x.o] := by rw [itcs_app]; rfl
theorem reads3 {w : World} {q : Nat} {t : TypeId} {a b c : Value} (h : w.heap[q]? = some (.cells #[a, b, c] t)) : Reads w (q + 1) 3 (some ⟨q, 0, none⟩) 1 [a, b, c] := by
  refine ⟨rfl, fun _ => ⟨_, rfl, Nat.lt_succ_self _, fun j v hv => ?_⟩⟩
  have e1 : Addr.add ⟨q, 0, none⟩ j = ⟨q, j, none⟩ := by
    unfold Addr.add
    split
    · subst_vars; rfl
    · simp
  rw [e1, cell_of_row _ _ j _ _ (0, 0) h]
  simpa using hv
theorem add_end {M : List It} {x : It} {base b c : Nat} {A : Option Addr} {w w1 : World} {v : Value} {o : Obj} (h : TAt w base b A c M) (ho : w1.ownsRow base 80 3 v (M.length + 1) (itcs M ++ [.int .u64 x.n, .int .i64 x.m, .bool x.o])) (hg : (w.alloc o).grownBy w1 (Value.slice A M.length c).ownBlock) :
    (∃ A c, TAt (w1.setCell { block := b, off := 0 } v) base b A c (M ++ [x])) ∧ TK base b w (w1.setCell { block := b, off := 0 } v) ∧ w1.cell? { block := b, off := 0 } = some (.slice A M.length c) ∧ w1.frozen? { block := b, off := 0 } = false := by
  have hb0 : Below w.heap.size w (w.alloc o) := below_alloc (Below.refl _ _) o
  have h1 := h.below hb0
  have t1 := TK.grown (b := b) h1.own hg
  have hh : w1.heap[b]? = some (.cells #[.slice A M.length c] 83) := (hg.block b h1.lt (fun e => by
    obtain ⟨cur, hc⟩ := own_size h1.own _ e.symm
    exact heap_ne h1.head hc (by simp) rfl)).trans h1.head
  obtain ⟨A', c', rfl, hc'⟩ := own_slice_cap ho
  refine ⟨⟨A', c', ?_, ?_⟩, ((TK.of_below hb0).trans t1).setCell _ _, cell_of_row _ b 0 _ _ (0, 0) hh, frozen_of_row _ b 0 _ _ hh⟩
  · rw [List.length_append, List.length_singleton]
    simp [World.setCell, Array.getElem?_modify, hh]
  · rw [List.length_append, List.length_singleton, itcs_one]
    refine own_chg (S := (· = b)) ho (Chg.setCell (S := (· = b)) (Chg.refl _ _) (p := { block := b, off := 0 }) rfl _) (fun k cur hk e => ?_)
    subst e
    exact heap_ne hh hk (by simp) rfl
set_option maxRecDepth 100000 in
set_option maxHeartbeats 2000000 in
theorem add_done {M : List It} {A : Option Addr} {base b c : Nat} {w : World} (h : TAt w base b A c M) (num m : Int) (hr : ¬ (num < 1 ∨ 65535 < num ∨ m < 0 ∨ 1073741824 < m)) (hl : M.length ≤ 1000) (hbw : base ≤ w.heap.size)
    (hp : ¬ (0 < M.length ∧ (num ≤ (M.getD (M.length - 1) ⟨0, 0, false⟩).n ∨ m < (M.getD (M.length - 1) ⟨0, 0, false⟩).m))) :
    Calls Try.prog 26 #[.pointer (some ⟨b, 0, none⟩), .int .u64 num, .int .i64 m] w fun e w' => e = .returned (.int .i64 0) ∧ (∃ A c, TAt w' base b A c (M ++ [⟨num, m, false⟩])) ∧ TK base b w w' := by
  obtain ⟨i0, hi, hz0, hz1, hz2⟩ := info_parts item_info
  obtain ⟨r1, r2, r3, r4⟩ : ¬ num < 1 ∧ ¬ 65535 < num ∧ ¬ m < 0 ∧ ¬ 1073741824 < m := ⟨by omega, by omega, by omega, by omega⟩
  have hc := h.cell
  have hi' := Lib.hid hi
  have H := Lib.hid h
  have hx1 := Lib.hid (show M.length + 1 ≤ maxLen ∧ (M.length + 1) * 24 ≤ 140737488355328 by unfold maxLen; omega)
  have HO := Lib.hid (h.own.alloc (.cells #[.int .u64 num, .int .i64 m, .bool false] 80))
  have hbz := Lib.hid (show base ≤ (w.alloc (.cells #[.int .u64 num, .int .i64 m, .bool false] 80)).heap.size by simp; omega)
  clear hi hr hbw
  have K : Hid (∀ v w1, w1.ownsRow base 80 3 v (M.length + 1) (itcs M ++ [.int .u64 num, .int .i64 m, .bool false]) → (w.alloc (.cells #[.int .u64 num, .int .i64 m, .bool false] 80)).grownBy w1 (Value.slice A M.length c).ownBlock → _) := Lib.hid (fun v w1 ho hg => add_end (x := ⟨num, m, false⟩) H.out ho hg)
  by_cases h0 : 0 < M.length
  · have hlt : M.length - 1 < M.length := by omega
    obtain ⟨q, hA, hq, hcc⟩ := h.row h0
    obtain ⟨e0, e1, e2⟩ := hcc _ hlt
    have ex : M.getD (M.length - 1) ⟨0, 0, false⟩ = M[M.length - 1] := by rw [List.getD_eq_getElem?_getD, List.getElem?_eq_getElem hlt]; rfl
    rw [ex] at hp
    have p1 : ¬ num ≤ M[M.length - 1].n := fun e => hp ⟨h0, .inl e⟩
    have p2 : ¬ m < M[M.length - 1].m := fun e => hp ⟨h0, .inr e⟩
    clear hcc ex h hp e2
    subst hA
    generalize M[M.length - 1] = x at *
    have d1 : IntKind.i64.wrap ((M.length : Int) - 1) = (M.length : Int) - 1 := IntWalk.i64_in _ (by omega)
    have hnn : ((M.length : Int) - 1).toNat = M.length - 1 := by omega
    go_enter Try.func26, Try.ntmps26
    go_wp2_with (at_builtin
                 refine wpList_append_any _ rfl _ _ 81 rfl base 80 i0 _ 3 24 Try.underlying81 hi'.out hz0 hz1 hz2 rfl (by decide) _ _ _ rfl HO.out _ _ 1 1 _ rfl (reads3 (heap_alloc_new w _)) (by simp [Value.oneCell']) hx1.out.1 hx1.out.2 hbz.out ?_
                 intro v1 w1 ho1 hg1 ha1
                 obtain ⟨A1, c1, rfl, hcap1⟩ := own_slice_cap ho1
                 obtain ⟨k1, k2, k3, k4⟩ := K.out _ w1 ho1 hg1
                 replace k1 := Lib.hid k1
                 replace k2 := Lib.hid k2
                 clear ho1 hg1 ha1 hcap1)
    go_ret
    exact ⟨rfl, k1.out, k2.out⟩
  · have hd0 : decide ((0 : Int) < (M.length : Int)) = false := decide_eq_false (by omega)
    have hd1 : decide (0 < M.length) = false := decide_eq_false h0
    clear h hp
    go_enter Try.func26, Try.ntmps26
    go_wp2_with (at_builtin
                 refine wpList_append_any _ rfl _ _ 81 rfl base 80 i0 _ 3 24 Try.underlying81 hi'.out hz0 hz1 hz2 rfl (by decide) _ _ _ rfl HO.out _ _ 1 1 _ rfl (reads3 (heap_alloc_new w _)) (by simp [Value.oneCell']) hx1.out.1 hx1.out.2 hbz.out ?_
                 intro v1 w1 ho1 hg1 ha1
                 obtain ⟨A1, c1, rfl, hcap1⟩ := own_slice_cap ho1
                 obtain ⟨k1, k2, k3, k4⟩ := K.out _ w1 ho1 hg1
                 replace k1 := Lib.hid k1
                 replace k2 := Lib.hid k2
                 clear ho1 hg1 ha1 hcap1)
    go_ret
    exact ⟨rfl, k1.out, k2.out⟩
theorem add_calls {M : List It} {A : Option Addr} {base b c : Nat} {w : World} (h : TAt w base b A c M) (num m : Int) (hl : M.length ≤ 1000) (hbw : base ≤ w.heap.size) :
    Calls Try.prog 26 #[.pointer (some ⟨b, 0, none⟩), .int .u64 num, .int .i64 m] w (AddPost M num m base b w) := by
  by_cases hr : num < 1 ∨ 65535 < num ∨ m < 0 ∨ 1073741824 < m
  · exact (add_range num m hr).mono fun e w' ⟨he, hw⟩ => by subst he hw; exact add_same h (by unfold addC; rw [if_pos hr]) (by decide)
  · by_cases hp : 0 < M.length ∧ (num ≤ (M.getD (M.length - 1) ⟨0, 0, false⟩).n ∨ m < (M.getD (M.length - 1) ⟨0, 0, false⟩).m)
    · exact (add_past h num m hr hp.1 hl hp.2).mono fun e w' ⟨he, hw⟩ => by subst he hw; exact add_same h (by unfold addC; rw [if_neg hr, if_pos hp]) (by decide)
    · have hc : addC M num m = 0 := by unfold addC; rw [if_neg hr, if_neg hp]
      exact (add_done h num m hr hl hbw hp).mono fun e w' ⟨he, hx, hk⟩ => ⟨by rw [hc]; exact he, by unfold addM; rw [if_pos hc]; exact hx, hk⟩
end Go.Proofs.Ytonlbeonblpblaa.All
