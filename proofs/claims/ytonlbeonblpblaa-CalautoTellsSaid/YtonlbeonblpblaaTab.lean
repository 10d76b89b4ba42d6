/-
  A table of moments in plain Lean: rising items, and where a number stands; its cells in Go's memory. No condition.
-/
import Derived.Test.YtonlbeonblpblaaMem
namespace Go.Proofs.Ytonlbeonblpblaa.All
open Go.RowKit Go.Proofs.YtonlbeonblpblaaW.PrintWords Go.Proofs.YtonlbeonblpblaaW.PrintLast Go.Proofs.YtonlbeonblpblaaW.PrintMore Go.Proofs.Ytonlbeonblpblaa.Wd
set_option linter.unusedVariables false
set_option linter.unusedSimpArgs false
/-- A moment: number, minute, whether it is out. -/
structure It where
  n : Int
  m : Int
  o : Bool
def itc (x : It) : List Value := [.int .u64 x.n, .int .i64 x.m, .bool x.o]
def itcs (M : List It) : List Value := M.flatMap itc
theorem itcs_len : ∀ M : List It, (itcs M).length = M.length * 3
  | [] => rfl
  | x :: M => by
    show (itc x ++ itcs M).length = _
    rw [List.length_append, itcs_len M, List.length_cons, show (itc x).length = 3 from rfl]
    omega
theorem itcs_app (M L : List It) : itcs (M ++ L) = itcs M ++ itcs L := by simp [itcs, List.flatMap_append]
theorem itcs_get : ∀ (M : List It) (i j : Nat) (h : i < M.length), j < 3 → (itcs M)[i * 3 + j]? = (itc M[i])[j]?
  | x :: M, 0, j, _, hj => by
    show (itc x ++ itcs M)[0 * 3 + j]? = _
    rw [Nat.zero_mul, Nat.zero_add, List.getElem?_append_left (show j < (itc x).length from hj)]
    rfl
  | x :: M, i + 1, j, h, hj => by
    show (itc x ++ itcs M)[(i + 1) * 3 + j]? = _
    rw [List.getElem?_append_right (by rw [show (itc x).length = 3 from rfl]; omega), show (itc x).length = 3 from rfl, show (i + 1) * 3 + j - 3 = i * 3 + j by omega, itcs_get M i j (by simpa using h) hj]
    rfl
/-- Where a number stands, or would stand. -/
def lb (M : List It) (num : Int) : Nat := (M.takeWhile fun x => decide (x.n < num)).length
def hit (M : List It) (num : Int) : Bool := match M[lb M num]? with | some x => x.n == num | none => false
theorem lb_eq {M : List It} {num : Int} : ∀ {i : Nat}, i ≤ M.length → (∀ t (h : t < M.length), t < i → M[t].n < num) → (∀ h : i < M.length, ¬ M[i].n < num) → lb M num = i := by
  induction M with
  | nil =>
    intro i h _ _
    obtain rfl : i = 0 := by simpa using h
    rfl
  | cons x M ih =>
    intro i h h1 h2
    cases i with
    | zero =>
      have := h2 (by simp)
      unfold lb
      rw [List.takeWhile_cons, if_neg (by simpa using this)]
      rfl
    | succ i =>
      have h0 : x.n < num := h1 0 (by simp) (by omega)
      have := ih (i := i) (by simpa using h) (fun t h3 h4 => h1 (t + 1) (by simpa using h3) (by omega)) (fun h3 => h2 (by simpa using h3))
      unfold lb at this ⊢
      rw [List.takeWhile_cons, if_pos (by simpa using h0), List.length_cons, this]
theorem lb_le (M : List It) (num : Int) : lb M num ≤ M.length := by
  unfold lb
  exact (List.takeWhile_prefix _).length_le
/-- Rising numbers. -/
def Up (M : List It) : Prop := ∀ i j (hi : i < M.length) (hj : j < M.length), i < j → M[i].n < M[j].n
/-- A table at a block. -/
structure TAt (w : World) (base b : Nat) (A : Option Addr) (c : Nat) (M : List It) : Prop where
  head : w.heap[b]? = some (.cells #[.slice A M.length c] 83)
  own : w.ownsRow base 80 3 (.slice A M.length c) M.length (itcs M)
theorem TAt.chg {S : Nat → Prop} {w w2 : World} {base b : Nat} {A : Option Addr} {c : Nat} {M : List It} (h : TAt w base b A c M) (hc : Chg S w w2) (hb : ¬ S b) (hs : ∀ k cur, w.heap[k]? = some (.cells cur 80) → ¬ S k) : TAt w2 base b A c M := ⟨hc.old h.head hb, own_chg h.own hc hs⟩
theorem TAt.below {w w2 : World} {base b : Nat} {A : Option Addr} {c : Nat} {M : List It} (h : TAt w base b A c M) (hb : Below w.heap.size w w2) : TAt w2 base b A c M := h.chg (S := fun _ => False) (.of_below hb) (fun e => e) (fun _ _ _ e => e)
theorem TAt.lt {w : World} {base b : Nat} {A : Option Addr} {c : Nat} {M : List It} (h : TAt w base b A c M) : b < w.heap.size := lt_heap h.head
theorem TAt.cell {w : World} {base b : Nat} {A : Option Addr} {c : Nat} {M : List It} (h : TAt w base b A c M) : w.cell? { block := b, off := 0 } = some (.slice A M.length c) := cell_of_row w b 0 _ _ (0, 0) h.head
theorem TAt.frozen {w : World} {base b : Nat} {A : Option Addr} {c : Nat} {M : List It} (h : TAt w base b A c M) : w.frozen? { block := b, off := 0 } = false := frozen_of_row w b 0 _ _ h.head
/-- Items in a row, to be read. -/
def ItRow (w : World) (A : Option Addr) (M : List It) : Prop := 0 < M.length → ∃ q, A = some ⟨q, 0, none⟩ ∧ q < w.heap.size ∧ ∀ i (h : i < M.length), w.cell? { block := q, off := i * 3 } = some (.int .u64 M[i].n) ∧ w.cell? { block := q, off := i * 3 + 1 } = some (.int .i64 M[i].m) ∧ w.cell? { block := q, off := i * 3 + 2 } = some (.bool M[i].o)
theorem TAt.row {w : World} {base b : Nat} {A : Option Addr} {c : Nat} {M : List It} (h : TAt w base b A c M) : ItRow w A M := fun h0 => by
  obtain ⟨q, cur, e, _, hh, _, _, hc⟩ := own_row h.own h0
  refine ⟨q, e, lt_heap hh, fun i hi => ⟨hc _ _ ?_, hc _ _ ?_, hc _ _ ?_⟩⟩
  · exact (itcs_get M i 0 hi (by omega)).trans rfl
  · exact (itcs_get M i 1 hi (by omega)).trans rfl
  · exact (itcs_get M i 2 hi (by omega)).trans rfl
theorem ItRow.below {w w2 : World} {A : Option Addr} {M : List It} (h : ItRow w A M) (hb : Below w.heap.size w w2) : ItRow w2 A M := fun h0 => by
  obtain ⟨q, e, hq, hc⟩ := h h0
  have k : ∀ j, w2.cell? { block := q, off := j } = w.cell? { block := q, off := j } := fun j => hb.cell (p := { block := q, off := j }) hq
  exact ⟨q, e, Nat.lt_of_lt_of_le hq hb.size, fun i hi => by rw [k, k, k]; exact hc i hi⟩
theorem TAt.cap {w : World} {base b : Nat} {A : Option Addr} {c : Nat} {M : List It} (h : TAt w base b A c M) : M.length ≤ c := by
  obtain ⟨A', c', e, hc⟩ := own_slice_cap h.own
  injection e with _ _ e
  omega
end Go.Proofs.Ytonlbeonblpblaa.All
