/-
  Rules, as the rows read them and as they lie in any row; whether a rule is right. No condition.
-/
import Derived.Test.YtonlbeonblpblaaOpen
import Derived.Test.YtonlbeonblpblaaAdd
namespace Go.Proofs.Ytonlbeonblpblaa.All
open Go.RowKit Go.Proofs.YtonlbeonblpblaaW.PrintWords Go.Proofs.YtonlbeonblpblaaW.PrintLast Go.Proofs.YtonlbeonblpblaaW.PrintMore Go.Proofs.Ytonlbeonblpblaa.Wd
set_option linter.unusedVariables false
set_option linter.unusedSimpArgs false
private theorem ym (motive : Option Value → Sort _) (h1 : (b : Bool) → motive (some (.bool b))) (h2 : (x : Option Value) → motive x) : Go.yielded.match_1 motive (some undef) h1 h2 = h2 (some undef) := rfl
attribute [local go_sem, local simp] ym
/-- A rule: kind, length, how long. -/
structure Ru where
  k : Int
  l : Int
  f : Int
def zr : Ru := ⟨0, 0, 0⟩
def ruc (r : Ru) : List Value := [.int .i64 r.k, .int .i64 r.l, .int .i64 r.f]
def rucs (L : List Ru) : List Value := L.flatMap ruc
def kRu : Kd Ru := Kd.iso (Kd.pair (Kd.int .i64) (Kd.pair (Kd.int .i64) (Kd.int .i64))) fun a => (a.k, a.l, a.f)
theorem kRu_cells {w : World} {a : Ru} {cs : List Value} (h : kRu.K w a cs) : cs = ruc a := by
  obtain ⟨c0, c1, rfl, h0, c2, c3, rfl, h2, h4⟩ := h
  have h0 : c0 = _ := h0
  have h2 : c2 = _ := h2
  have h4 : c3 = _ := h4
  rw [h0, h2, h4]
  rfl
def RuWf (a : Ru) : Prop := (Lit.int .i64 a.k).wf = true ∧ (Lit.int .i64 a.l).wf = true ∧ (Lit.int .i64 a.f).wf = true
theorem opensRu {H : Type} {enc : TypeId × Value → H} : Go.Proofs.YtonlbeonblpblaaO.Opens enc Try.prog 24 kRu RuWf :=
  Go.Proofs.YtonlbeonblpblaaO.opens_struct Try.underlying24 (by kernel_rfl)
    (Go.Proofs.YtonlbeonblpblaaO.opensFs_cons rfl (Go.Proofs.YtonlbeonblpblaaO.opens_int Try.underlying3 (by kernel_rfl)) (Go.Proofs.YtonlbeonblpblaaO.opensFs_cons rfl (Go.Proofs.YtonlbeonblpblaaO.opens_int Try.underlying3 (by kernel_rfl)) (Go.Proofs.YtonlbeonblpblaaO.opensFs_last rfl (Go.Proofs.YtonlbeonblpblaaO.opens_int Try.underlying3 (by kernel_rfl)))))
    (fun a : Ru => (a.k, a.l, a.f)) (fun a => ⟨a.1, a.2.1, a.2.2⟩) (fun _ => rfl)
theorem opensRus {H : Type} {enc : TypeId × Value → H} : Go.Proofs.YtonlbeonblpblaaO.Opens enc Try.prog 22 (Kd.slice 24 kRu) (fun l => l.length ≤ maxLen ∧ l.length * Try.prog.bytesOf 24 ≤ 140737488351232 ∧ ∀ a ∈ l, RuWf a) :=
  Go.Proofs.YtonlbeonblpblaaO.opens_slice Try.underlying22 (by kernel_rfl) opensRu
/-- Rule number i of a row. -/
structure RuAt (w : World) (ad : Addr) (i : Nat) (a : Ru) : Prop where
  c0 : w.cell? (ad.add (i * 3)) = some (.int .i64 a.k)
  c1 : w.cell? { block := (ad.add (i * 3)).block, off := (ad.add (i * 3)).off + 1 } = some (.int .i64 a.l)
  c2 : w.cell? { block := (ad.add (i * 3)).block, off := (ad.add (i * 3)).off + 2 } = some (.int .i64 a.f)
/-- Rules in a row, to be read; below B. -/
def RuRow (w : World) (B : Nat) (A : Option Addr) (L : List Ru) : Prop := 0 < L.length → ∃ ad, A = some ad ∧ ad.block < B ∧ ∀ i (h : i < L.length), RuAt w ad i L[i]
theorem RuRow.keep {w w2 : World} {B : Nat} {A : Option Addr} {L : List Ru} (h : RuRow w B A L) (hk : ∀ p : Addr, p.block < B → w2.cell? p = w.cell? p) : RuRow w2 B A L := fun h0 => by
  obtain ⟨ad, e, hb, hc⟩ := h h0
  have hbb : ∀ i, (ad.add (i * 3)).block < B := fun i => by rw [block_of_add]; exact hb
  exact ⟨ad, e, hb, fun i hi => ⟨(hk _ (hbb i)).trans (hc i hi).c0, (hk { block := (ad.add (i * 3)).block, off := (ad.add (i * 3)).off + 1 } (hbb i)).trans (hc i hi).c1, (hk { block := (ad.add (i * 3)).block, off := (ad.add (i * 3)).off + 2 } (hbb i)).trans (hc i hi).c2⟩⟩
theorem RuRow.below {w w2 : World} {B : Nat} {A : Option Addr} {L : List Ru} (h : RuRow w B A L) (hb : Below B w w2) : RuRow w2 B A L := h.keep fun _ hp => hb.cell hp
theorem ru_came {w : World} {A : Option Addr} {L : List Ru} (h : Kd.C kRu w A L.length L) (hB : ∀ ad, A = some ad → 0 < L.length → ad.block < w.heap.size) : RuRow w w.heap.size A L := fun h0 => by
  obtain ⟨ad, _, hA, _, _, _⟩ := Kd.C_get h zr (0 : Int) (by omega) (by omega)
  refine ⟨ad, hA, hB ad hA h0, fun i hi => ?_⟩
  obtain ⟨ad2, c, hA2, hl, hK, hc⟩ := Kd.C_get h zr (i : Int) (by omega) (by omega)
  rw [hA] at hA2
  injection hA2 with e
  subst e
  have hcs := kRu_cells hK
  have hg : L.getD (i : Int).toNat zr = L[i] := by rw [Int.toNat_natCast, List.getD_eq_getElem?_getD, List.getElem?_eq_getElem hi]; rfl
  rw [hg] at hcs
  subst hcs
  rw [Int.toNat_natCast] at hc
  have H : ∀ j u, 0 < j → (ruc L[i])[j]? = some u → w.cell? { block := (ad.add (i * 3)).block, off := (ad.add (i * 3)).off + j } = some u := fun j u hj hu => (add_field ad (i * 3) j hj) ▸ hc j u hu
  exact ⟨hc 0 _ rfl, H 1 _ (by decide) rfl, H 2 _ (by decide) rfl⟩
/-- Is a rule right? -/
def spanB (n : Int) : Bool := decide (1 ≤ n) && decide (n ≤ 1073741824)
def rightB (r : Ru) : Bool := if r.k = 1 ∨ r.k = 4 then decide (r.l = 0) && spanB r.f else if r.k = 2 ∨ r.k = 3 then spanB r.l && spanB r.f else false
set_option maxRecDepth 100000 in
theorem span_calls (n : Int) (w : World) : Calls Try.prog 29 #[.int .i64 n] w fun e w' => e = .returned (.bool (spanB n)) ∧ w = w' := by
  by_cases h : 1 ≤ n
  · have e1 := Lib.hid (show spanB n = decide (n ≤ 1073741824) by unfold spanB; rw [decide_eq_true h]; rfl)
    go_enter Try.func29, Try.ntmps29
    go_wp2
    go_ret
    exact ⟨by rw [e1.out]; rfl, rfl⟩
  · have e1 := Lib.hid (show spanB n = false by unfold spanB; rw [decide_eq_false h]; rfl)
    have h' : n < 1 := by omega
    go_enter Try.func29, Try.ntmps29
    go_wp2
    go_ret
    exact ⟨by rw [e1.out]; rfl, rfl⟩
set_option maxRecDepth 100000 in
set_option maxHeartbeats 1000000 in
theorem right_calls (r : Ru) (w : World) : Calls Try.prog 13 #[.agg #[.int .i64 r.k, .int .i64 r.l, .int .i64 r.f]] w fun e w' => e = .returned (.bool (rightB r)) ∧ Below w.heap.size w w' := by
  have SC := Lib.hid (fun (n : Int) (w : World) => span_calls n w)
  by_cases h1 : r.k = 1 ∨ r.k = 4
  · by_cases hl : r.l = 0
    · have e1 := Lib.hid (show rightB r = spanB r.f by unfold rightB; rw [if_pos h1, decide_eq_true hl]; rfl)
      replace h1 := Lib.hid h1
      generalize r.k = k at *
      generalize r.l = l at *
      subst hl
      rcases h1.out with rfl | rfl
      all_goals
        go_enter Try.func13, Try.ntmps13
        go_wp2_with (go_at_call 29; refine (SC.out _ _).mono ?_; rintro e w' ⟨rfl, rfl⟩)
        go_ret
        exact ⟨by rw [e1.out]; rfl, below_alloc (Below.refl _ _) _⟩
    · have e1 := Lib.hid (show rightB r = false by unfold rightB; rw [if_pos h1, decide_eq_false hl]; rfl)
      have hl2 : (r.l == 0) = false := by simpa using hl
      replace h1 := Lib.hid h1
      generalize r.k = k at *
      generalize r.l = l at *
      rcases h1.out with rfl | rfl
      all_goals
        go_enter Try.func13, Try.ntmps13
        go_wp2_with (go_at_call 29; refine (SC.out _ _).mono ?_; rintro e w' ⟨rfl, rfl⟩)
        go_ret
        exact ⟨by rw [e1.out]; rfl, below_alloc (Below.refl _ _) _⟩
  · by_cases h2 : r.k = 2 ∨ r.k = 3
    · have e0 := Lib.hid (show rightB r = (spanB r.l && spanB r.f) by unfold rightB; rw [if_neg h1, if_pos h2])
      replace h2 := Lib.hid h2
      clear h1
      cases hs : spanB r.l with
      | true =>
        have e1 := Lib.hid (show rightB r = spanB r.f by rw [e0.out, hs]; rfl)
        have SL := SC.out r.l
        rw [hs] at SL
        replace SL := Lib.hid SL
        clear hs
        generalize r.k = k at *
        rcases h2.out with rfl | rfl
        all_goals
          go_enter Try.func13, Try.ntmps13
          go_wp2_with (first
            | (go_at_call 29; (with_reducible refine (SL.out _).mono ?_); rintro e w' ⟨rfl, rfl⟩)
            | (go_at_call 29; refine (SC.out _ _).mono ?_; rintro e w' ⟨rfl, rfl⟩))
          go_ret
          exact ⟨by rw [e1.out]; rfl, below_alloc (Below.refl _ _) _⟩
      | false =>
        have e1 := Lib.hid (show rightB r = false by rw [e0.out, hs]; rfl)
        have SL := SC.out r.l
        rw [hs] at SL
        replace SL := Lib.hid SL
        clear hs
        generalize r.k = k at *
        rcases h2.out with rfl | rfl
        all_goals
          go_enter Try.func13, Try.ntmps13
          go_wp2_with (go_at_call 29; refine (SL.out _).mono ?_; rintro e w' ⟨rfl, rfl⟩)
          go_ret
          exact ⟨by rw [e1.out]; rfl, below_alloc (Below.refl _ _) _⟩
    · have e1 := Lib.hid (show rightB r = false by unfold rightB; rw [if_neg h1, if_neg h2])
      have k1 : (r.k == 1) = false := by simp; omega
      have k2 : (r.k == 2) = false := by simp; omega
      have k3 : (r.k == 3) = false := by simp; omega
      have k4 : (r.k == 4) = false := by simp; omega
      clear h1 h2
      go_enter Try.func13, Try.ntmps13
      go_wp2
      go_ret
      exact ⟨by rw [e1.out]; rfl, below_alloc (Below.refl _ _) _⟩
end Go.Proofs.Ytonlbeonblpblaa.All
