/-
  What a law of chapter 36 keeps: the table, a calendar, its box; what was there. The rows that came in, read. No condition.
-/
import Derived.Test.YtonlbeonblpblaaPlainM
import Derived.Test.YtonlbeonblpblaaMadeW
import Derived.Deep.RegionHeld3
import Derived.BigQuiet
namespace Go.Proofs.Ytonlbeonblpblaa.All
open Go.RowKit Go.Proofs.YtonlbeonblpblaaW.PrintWords Go.Proofs.YtonlbeonblpblaaW.PrintLast Go.Proofs.YtonlbeonblpblaaW.PrintMore Go.Proofs.Ytonlbeonblpblaa.Wd
set_option linter.unusedVariables false
set_option linter.unusedSimpArgs false
theorem cell_lt {w : World} {p : Addr} {v : Value} (h : w.cell? p = some v) : p.block < w.heap.size := by
  unfold World.cell? at h
  rcases Nat.lt_or_ge p.block w.heap.size with hl | hl
  · exact hl
  · rw [Array.getElem?_eq_none hl] at h
    cases h
theorem ru_row {w : World} {A : Option Addr} {L : List Ru} (h : Kd.C kRu w A L.length L) : RuRow w w.heap.size A L :=
  ru_came h fun ad hA h0 => by
    obtain ⟨ad2, c, hA2, hl, hK, hc⟩ := Kd.C_get h zr (0 : Int) (by omega) (by omega)
    rw [hA] at hA2
    injection hA2 with e
    subst e
    have hcs := kRu_cells hK
    subst hcs
    have := cell_lt (hc 0 _ rfl)
    rwa [block_of_add] at this
theorem RuRow.up {w w2 : World} {A : Option Addr} {L : List Ru} (h : RuRow w w.heap.size A L) (hb : Below w.heap.size w w2) : RuRow w2 w2.heap.size A L := fun h0 => by
  obtain ⟨ad, e, h1, h2⟩ := (h.below hb) h0
  exact ⟨ad, e, Nat.lt_of_lt_of_le h1 hb.size, h2⟩
theorem opensU8 {H : Type} {enc : TypeId × Value → H} : Go.Proofs.YtonlbeonblpblaaO.Opens enc Try.prog 25 (Kd.slice 5 (Kd.int .u8)) (fun l => l.length ≤ maxLen ∧ l.length * Try.prog.bytesOf 5 ≤ 140737488351232 ∧ ∀ a ∈ l, (Lit.int .u8 a).wf = true) :=
  Go.Proofs.YtonlbeonblpblaaO.opens_slice Try.underlying25 (by kernel_rfl) (Go.Proofs.YtonlbeonblpblaaO.opens_int Try.underlying5 (by kernel_rfl))
theorem steps_came {w : World} {P : Option Addr} {L : List Int} (h : Kd.C (Kd.int .u8) w P L.length L) : Reads w w.heap.size 1 P L.length (L.map (Value.int .u8)) := by
  refine ⟨by simp, fun h0 => ?_⟩
  obtain ⟨ad, c, hA, hl, hK, hc⟩ := Kd.C_get h (0 : Int) (0 : Int) (by omega) (by omega)
  have hK : c = _ := hK
  refine ⟨ad, hA, ?_, fun j u hu => ?_⟩
  · have := cell_lt (hc 0 _ (by rw [hK]; rfl))
    rwa [block_of_add] at this
  · have hj : j < L.length := by
      have := (List.getElem?_eq_some_iff.1 hu).1
      simpa using this
    obtain ⟨ad2, c2, hA2, hl2, hK2, hc2⟩ := Kd.C_get h (0 : Int) (j : Int) (by omega) (by omega)
    rw [hA] at hA2
    injection hA2 with e
    subst e
    have hK2 : c2 = _ := hK2
    have := hc2 0 _ (by rw [hK2]; rfl)
    rw [List.getElem?_map, List.getElem?_eq_getElem hj] at hu
    injection hu with hu
    rw [← hu]
    rw [Int.toNat_natCast, List.getD_eq_getElem?_getD, List.getElem?_eq_getElem hj] at this
    have e1 : (Kd.int .u8).sz = 1 := rfl
    rw [e1, Nat.mul_one] at this
    simpa [add_of_add] using this
theorem wf_u8 {n : Int} (h : (Lit.int .u8 n).wf = true) : 0 ≤ n ∧ n ≤ 255 := by
  have h1 : IntKind.u8.min = 0 := rfl
  have h2 : IntKind.u8.max = 255 := rfl
  simp [Lit.wf] at h
  omega
theorem steps_wf {L : List Int} (h : ∀ a ∈ L, (Lit.int .u8 a).wf = true) : Steps L := fun x hx => wf_u8 (h x hx)
/-- What a law keeps. -/
structure LW (w wr : World) (R : List Ru) (M : List It) (base b kb q : Nat) (A : Option Addr) (c : Nat) (ks : List (Ru × Nat)) : Prop where
  kt : KT w wr base b M kb A c ks
  box : wr.heap[q]? = some (.cells #[.slice A ks.length c, .int .i64 (neverF R).1, .bool (neverF R).2] 32)
  rt : Rt R
  ru : ks.map (·.1) = ksOf R
section
variable {w wr w2 : World} {R : List Ru} {M : List It} {base b kb q : Nat} {A : Option Addr} {c : Nat} {ks : List (Ru × Nat)}
theorem LW.below (h : LW w wr R M base b kb q A c ks) (hb : Below wr.heap.size wr w2) : LW w w2 R M base b kb q A c ks :=
  ⟨h.kt.below hb, (hb.block _ (lt_heap h.box)).trans h.box, h.rt, h.ru⟩
theorem LW.cells (h : LW w wr R M base b kb q A c ks) : wr.cell? { block := q, off := 0 } = some (.slice A ks.length c) ∧ wr.cell? { block := q, off := 1 } = some (.int .i64 (neverF R).1) ∧ wr.cell? { block := q, off := 2 } = some (.bool (neverF R).2) :=
  ⟨cell_of_row wr q 0 _ _ (0, 0) h.box, cell_of_row wr q 1 _ _ (0, 0) h.box, cell_of_row wr q 2 _ _ (0, 0) h.box⟩
abbrev tl (R : List Ru) (M : List It) (num : Int) : Int := tillF M num (neverF R) (ksOf R)
abbrev mn (R : List Ru) (M : List It) (num : Int) : List Int := minsF M num (neverF R) (ksOf R)
abbrev sy (R : List Ru) (M : List It) (num now : Int) : Bool := staysF M num (neverF R) (ksOf R) now
theorem LW.till (h : LW w wr R M base b kb q A c ks) (g : Good M) (num : Int) :
    Calls Try.prog 16 #[.agg #[.slice A ks.length c, .int .i64 (neverF R).1, .bool (neverF R).2], .pointer (some ⟨b, 0, none⟩), .int .u64 num] wr fun e w' => e = .returned (.int .i64 (tl R M num)) ∧ Below wr.heap.size wr w' := by
  obtain ⟨A', c', ht⟩ := h.kt.t
  have h1 := h.rt.ks h.ru
  have := till_calls g ht h.kt.k h1.1 h1.2 h.rt.n num
  rw [h.ru] at this
  exact this
theorem LW.stays (h : LW w wr R M base b kb q A c ks) (g : Good M) (num now : Int) :
    Calls Try.prog 23 #[.agg #[.slice A ks.length c, .int .i64 (neverF R).1, .bool (neverF R).2], .pointer (some ⟨b, 0, none⟩), .int .u64 num, .int .i64 now] wr fun e w' => e = .returned (.bool (sy R M num now)) ∧ Below wr.heap.size wr w' := by
  obtain ⟨A', c', ht⟩ := h.kt.t
  have h1 := h.rt.ks h.ru
  have := stays_calls g ht h.kt.k h1.1 h1.2 h.rt.n num now
  rw [h.ru] at this
  exact this
theorem LW.mins (h : LW w wr R M base b kb q A c ks) (g : Good M) (num : Int) :
    Calls Try.prog 18 #[.agg #[.slice A ks.length c, .int .i64 (neverF R).1, .bool (neverF R).2], .pointer (some ⟨b, 0, none⟩), .int .u64 num] wr fun e w' => ∃ v, e = .returned v ∧ w'.ownsRow wr.heap.size 3 1 v (mn R M num).length ((mn R M num).map (Value.int .i64)) ∧ Below wr.heap.size wr w' := by
  obtain ⟨A', c', ht⟩ := h.kt.t
  have h1 := h.rt.ks h.ru
  have := mins_calls g ht h.kt.k h1.1 h1.2 h.rt.n num
  rw [h.ru] at this
  exact this
theorem LW.min (h : LW w wr R M base b kb q A c ks) (g : Good M) (num : Int) :
    Calls Try.prog 17 #[.pointer (some ⟨b, 0, none⟩), .int .u64 num] wr fun e w' => e = .returned (.tuple #[.int .i64 (minM M num), .bool (hit M num)]) ∧ Below wr.heap.size wr w' := by
  obtain ⟨A', c', ht⟩ := h.kt.t
  exact min_calls g.up ht g.len num
end
end Go.Proofs.Ytonlbeonblpblaa.All
