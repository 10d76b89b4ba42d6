/-
  What the walks of chapter 29's laws keep: the forest, the law's argument, what was there before; a line, or none. No condition.
-/
import Derived.Test.YtaolpniigjmccaaAwake
namespace Go.Proofs.Ytaolpniigjmccaa.All
open Go.RowKit Go.Proofs.YtaolpniigjmccaaW.PrintWords Go.Proofs.YtaolpniigjmccaaW.PrintLast Go.Proofs.YtaolpniigjmccaaW.PrintMore Go.Proofs.Ytaolpniigjmccaa.Wd
set_option linter.unusedVariables false
set_option linter.unusedSimpArgs false

/-! ### what the laws keep while they walk -/
structure Inv (w wr : World) (g : Nat) (F : List Tw) : Prop where
  here : At wr g 69 F
  bel : Below w.heap.size w wr
  lo : w.heap.size ≤ g
theorem Inv.below {w wr w2 : World} {g : Nat} {F : List Tw} (h : Inv w wr g F) (hb : Below wr.heap.size wr w2) : Inv w w2 g F := ⟨h.here.below hb, h.bel.trans (hb.mono h.bel.size), h.lo⟩
theorem Inv.chg {w wr w2 : World} {g : Nat} {F F' : List Tw} (h : Inv w wr g F) (hc : Chg (· = g) wr w2) (ha : At w2 g 69 F') : Inv w w2 g F' := ⟨ha, chg_below h.bel hc h.lo, h.lo⟩
def Arg (w : World) (g : Nat) (x : Ac) : Prop := w.heap[g]? = some (.cells #[.bool x.d, .int .i64 x.id, .int .i64 x.p, .int .u64 x.b, .int .u64 x.n] 25)
theorem Arg.below {w w2 : World} {g : Nat} {x : Ac} (h : Arg w g x) (hb : Below w.heap.size w w2) : Arg w2 g x := (hb.block g (Array.getElem?_eq_some_iff.1 h).1).trans h
theorem Arg.chg {w w2 : World} {g g' : Nat} {x : Ac} (h : Arg w g x) (hb : Chg (· = g') w w2) (hne : g ≠ g') : Arg w2 g x := hb.old h hne
theorem Arg.lt {w : World} {g : Nat} {x : Ac} (h : Arg w g x) : g < w.heap.size := (Array.getElem?_eq_some_iff.1 h).1
theorem Arg.cells {w : World} {g : Nat} {x : Ac} (h : Arg w g x) : w.cell? { block := g, off := 0 } = some (.bool x.d) ∧ w.cell? { block := g, off := 1 } = some (.int .i64 x.id) ∧ w.cell? { block := g, off := 2 } = some (.int .i64 x.p) ∧ w.cell? { block := g, off := 3 } = some (.int .u64 x.b) ∧ w.cell? { block := g, off := 4 } = some (.int .u64 x.n) :=
  ⟨cell_of_row w g 0 _ _ (0, 0) h, cell_of_row w g 1 _ _ (0, 0) h, cell_of_row w g 2 _ _ (0, 0) h, cell_of_row w g 3 _ _ (0, 0) h, cell_of_row w g 4 _ _ (0, 0) h⟩
/-- The line, or none; and the error's number. -/
def lineL (F : List Tw) (id m : Int) : List St := if lineOk F id m = true then lineF F id m else []
def lineE (F : List Tw) (id m : Int) : Int := if lineOk F id m = true then 0 else 4
def Rd (g : Nat) (w : World) (A : Option Addr) (L : List St) : Prop := L ≠ [] → ∃ blk, A = some ⟨blk, 0, none⟩ ∧ g < blk ∧ Sts w blk L
theorem Rd.below {g : Nat} {w w2 : World} {A : Option Addr} {L : List St} (h : Rd g w A L) (hb : Below w.heap.size w w2) : Rd g w2 A L := fun hn => by
  obtain ⟨blk, h1, h2, h3⟩ := h hn
  exact ⟨blk, h1, h2, h3.below hb⟩
theorem Rd.chg {g : Nat} {w w2 : World} {A : Option Addr} {L : List St} (h : Rd g w A L) (hb : Chg (· = g) w w2) : Rd g w2 A L := fun hn => by
  obtain ⟨blk, h1, h2, h3⟩ := h hn
  exact ⟨blk, h1, h2, h3.chg hb (by show blk ≠ g; omega)⟩
theorem Rd.cell {g : Nat} {w : World} {A : Option Addr} {L : List St} (h : Rd g w A L) {i : Nat} (hi : i < L.length) : ∃ blk, A = some ⟨blk, 0, none⟩ ∧ w.cell? { block := blk, off := i * 3 } = some (.int .i64 L[i].1) ∧ w.cell? { block := blk, off := i * 3 + 1 } = some (.int .u64 L[i].2.1) ∧ w.cell? { block := blk, off := i * 3 + 2 } = some (.int .u64 L[i].2.2) := by
  obtain ⟨blk, h1, h2, h3⟩ := h (fun e => by rw [e] at hi; exact absurd hi (Nat.not_lt_zero _))
  exact ⟨blk, h1, h3.cell hi⟩
theorem line_calls {F : List Tw} {b : Nat} {id m : Int} {w : World} (h : At w b 69 F) (ok : Ok F) :
    Calls Try.prog 14 #[.pointer (some ⟨b, 0, none⟩), .int .i64 id, .int .u64 m] w fun e w' => ∃ A cap, e = .returned (.tuple #[.slice A (lineL F id m).length cap, .int .i64 (lineE F id m)]) ∧ Rd b w' A (lineL F id m) ∧ Below w.heap.size w w' := by
  unfold lineL lineE
  by_cases hk : lineOk F id m = true
  · rw [if_pos hk, if_pos hk]
    unfold lineOk at hk
    rw [Bool.and_eq_true, decide_eq_true_eq] at hk
    refine (line_yes F ok b id m w h hk.1 hk.2).mono fun e w' ⟨blk, cap, he, h1, h2, h3⟩ => ⟨_, cap, he, fun _ => ⟨blk, rfl, Nat.lt_of_lt_of_le h.lt h1, h2⟩, h3⟩
  · rw [if_neg hk, if_neg hk]
    refine (line_no F b id m w h ?_).mono fun e w' ⟨he, hw⟩ => ⟨none, 0, he, fun hn => absurd rfl hn, by subst hw; exact Below.refl _ _⟩
    unfold lineOk at hk
    cases ha : aliveF F id with
    | false => exact .inl rfl
    | true => rw [ha] at hk; exact .inr (by simpa using hk)
theorem drop_act {F : List Tw} {b : Nat} {x : Ac} {w : World} (h : At w b 69 F) (hd : x.d = true) :
    Calls Try.prog 12 #[.pointer (some ⟨b, 0, none⟩), .int .i64 x.id] w fun e w' => e = .returned (.int .i64 (dropC F x.id)) ∧ At w' b 69 (actF F x) ∧ Chg (· = b) w w' :=
  drop_calls' h rfl (by unfold actF; rw [if_pos hd])
theorem fork_act {F : List Tw} {b : Nat} {x : Ac} {w : World} (h : At w b 69 F) (hd : x.d = false) :
    Calls Try.prog 13 #[.pointer (some ⟨b, 0, none⟩), .int .i64 x.id, .int .i64 x.p, .int .u64 x.b, .int .u64 x.n] w fun e w' => e = .returned (.int .i64 (forkC F x.id x.p x.b x.n)) ∧ At w' b 69 (actF F x) ∧ Chg (· = b) w w' :=
  fork_calls' h rfl (by unfold actF; rw [hd]; rfl)
theorem lineL_len {F : List Tw} (ok : Ok F) (id m : Int) : (lineL F id m).length ≤ 18 := by
  unfold lineL
  split
  · rename_i h
    unfold lineOk at h
    rw [Bool.and_eq_true] at h
    have := tail_len17 ok h.1
    unfold lineF
    rw [List.length_cons]
    omega
  · simp
/-- Does a line's front go through a branch? -/
def thr (L : List St) (x : Int) (k : Nat) : Bool := (L.take k).any fun s => s.1 == x
theorem thr_succ {L : List St} {x : Int} {k : Nat} (h : k < L.length) : thr L x (k + 1) = (thr L x k || L[k].1 == x) := by
  unfold thr
  rw [List.take_succ_eq_append_getElem h, List.any_append]
  simp
theorem thr_drop {F : List Tw} (ok : Ok F) {id m x : Int} (hx : id ≠ x) (h : thr (lineL F id m) x (lineL F id m).length = true) : dropC F x ≠ 0 := by
  unfold thr at h
  rw [List.take_length, List.any_eq_true] at h
  obtain ⟨s, hs, he⟩ := h
  unfold lineL at hs
  split at hs
  · rename_i hk
    unfold lineOk at hk
    rw [Bool.and_eq_true] at hk
    exact through_drop ok hk.1 hx ⟨s, hs, by simpa using he⟩
  · cases hs
theorem act_lineL {F : List Tw} (ok : Ok F) (a : Ac) {id : Int} (hx : id ≠ a.id) (m : Int) : lineL (actF F a) id m = lineL F id m ∧ lineE (actF F a) id m = lineE F id m := by
  unfold lineL lineE
  rw [act_lineOk ok a hx m]
  refine ⟨?_, rfl⟩
  split
  · rename_i h
    exact act_line ok a hx m h
  · rfl
end Go.Proofs.Ytaolpniigjmccaa.All
