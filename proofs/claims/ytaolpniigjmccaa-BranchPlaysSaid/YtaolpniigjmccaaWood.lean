/-
  Forests of branches in plain Lean: sixteen twigs, and what a forest's functions answer; a forest's cells in Go's memory. No condition.
-/
import Derived.Test.YtaolpniigjmccaaWMore
import Derived.Laws.Rows
import Derived.Lib.Hide
import Derived.Below
import Derived.IntWalk
import Derived.Laws.AppendOwn
namespace Go.Proofs.Ytaolpniigjmccaa.Wd
open Go.RowKit Go.Proofs.YtaolpniigjmccaaW.PrintWords
set_option linter.unusedVariables false
set_option linter.unusedSimpArgs false

/-- A branch that isn't the trunk. -/
structure Tw where
  a : Bool
  p : Int
  b : Int
  n : Int
def tz : Tw := ⟨false, 0, 0, 0⟩
def tc (t : Tw) : List Value := [.bool t.a, .int .i64 t.p, .int .u64 t.b, .int .u64 t.n]
def fc (F : List Tw) : List Value := F.flatMap tc
theorem tc_len (t : Tw) : (tc t).length = 4 := rfl
theorem fc_len : ∀ F : List Tw, (fc F).length = F.length * 4
  | [] => rfl
  | t :: F => by
    show (tc t ++ fc F).length = _
    rw [List.length_append, fc_len F, tc_len, List.length_cons]
    omega
theorem fc_drop : ∀ (F : List Tw) (i : Nat), (fc F).drop (i * 4) = fc (F.drop i)
  | F, 0 => by simp
  | [], i + 1 => by simp [fc]
  | t :: F, i + 1 => by
    have e : (i + 1) * 4 = (tc t).length + i * 4 := by rw [tc_len]; omega
    show (tc t ++ fc F).drop ((i + 1) * 4) = _
    rw [e, ← List.drop_drop, List.drop_left, fc_drop F i]
    rfl
theorem fc_take : ∀ (F : List Tw) (i : Nat), (fc F).take (i * 4) = fc (F.take i)
  | F, 0 => by simp [fc]
  | [], i + 1 => by simp [fc]
  | t :: F, i + 1 => by
    have e : (i + 1) * 4 = (tc t).length + i * 4 := by rw [tc_len]; omega
    show (tc t ++ fc F).take ((i + 1) * 4) = _
    rw [e, List.take_length_add_append, fc_take F i]
    rfl
theorem fc_seg (F : List Tw) (i : Nat) (h : i < F.length) : ((fc F).drop (i * 4)).take 4 = tc (F.getD i tz) := by
  rw [fc_drop, List.drop_eq_getElem_cons h]
  show (tc F[i] ++ fc _).take 4 = _
  rw [List.take_left' (tc_len _), List.getD_eq_getElem?_getD, List.getElem?_eq_getElem h]
  rfl
theorem fc_get (F : List Tw) (i j : Nat) (h : i < F.length) (hj : j < 4) : (fc F)[i * 4 + j]? = (tc (F.getD i tz))[j]? := by
  rw [← fc_seg F i h, List.getElem?_take, if_pos hj, List.getElem?_drop]
theorem fc_set (F : List Tw) (i : Nat) (h : i < F.length) (t : Tw) : (fc F).take (i * 4) ++ tc t ++ (fc F).drop (i * 4 + 4) = fc (F.set i t) := by
  have e : i * 4 + 4 = (i + 1) * 4 := by omega
  rw [e, fc_take, fc_drop, List.set_eq_take_append_cons_drop, if_pos h]
  simp [fc, List.flatMap_append, List.flatMap_cons]

/-! ### what the functions answer -/
/-- A branch's twig. -/
def tw (F : List Tw) (id : Int) : Tw := F.getD id.toNat tz
def inR (id : Int) : Bool := decide (0 ≤ id) && decide (id < 16)
def aliveF (F : List Tw) (id : Int) : Bool := inR id && (id == 0 || (tw F id).a)
def forkC (F : List Tw) (id p b n : Int) : Int :=
  if id < 1 ∨ 16 ≤ id then 2 else if (tw F id).a = true then 5 else if aliveF F p = false then 4 else if b < (tw F p).n ∨ n ≤ b then 15 else 0
def forkF (F : List Tw) (id p b n : Int) : List Tw := if forkC F id p b n = 0 then F.set id.toNat ⟨true, p, b, n⟩ else F
def kidsF (F : List Tw) (id : Int) : Nat := if aliveF F id = true then F.countP (fun t => t.a && t.p == id) else 0
def dropC (F : List Tw) (id : Int) : Int := if id = 0 then 7 else if aliveF F id = false then 4 else if 0 < kidsF F id then 12 else 0
def dropF (F : List Tw) (id : Int) : List Tw := if dropC F id = 0 then F.set id.toNat tz else F
def newF : List Tw := List.replicate 16 tz
/-- A forest's cells, in a block. -/
def At (w : World) (b : Nat) (T : TypeId) (F : List Tw) : Prop := F.length = 16 ∧ w.heap[b]? = some (.cells (fc F).toArray T)
theorem At.cell {w : World} {b : Nat} {T : TypeId} {F : List Tw} (h : At w b T F) {i j : Nat} (hi : i < 16) (hj : j < 4) : w.cell? ⟨b, i * 4 + j, none⟩ = (tc (F.getD i tz))[j]? := by
  have h1 := cell_of_row w b (i * 4 + j) (fc F).toArray T (0, 0) h.2
  rw [h1]
  rw [List.getElem?_toArray, fc_get F i j (by rw [h.1]; exact hi) hj]
theorem At.cells {w : World} {b : Nat} {T : TypeId} {F : List Tw} (h : At w b T F) {id : Int} (h0 : 0 ≤ id) (h1 : id < 16) :
    w.cell? { block := b, off := id.toNat * 4 } = some (.bool (tw F id).a) ∧ w.cell? { block := b, off := id.toNat * 4 + 1 } = some (.int .i64 (tw F id).p) ∧ w.cell? { block := b, off := id.toNat * 4 + 2 } = some (.int .u64 (tw F id).b) ∧ w.cell? { block := b, off := id.toNat * 4 + 3 } = some (.int .u64 (tw F id).n) :=
  ⟨h.cell (i := id.toNat) (j := 0) (by omega) (by omega), h.cell (i := id.toNat) (j := 1) (by omega) (by omega), h.cell (i := id.toNat) (j := 2) (by omega) (by omega), h.cell (i := id.toNat) (j := 3) (by omega) (by omega)⟩
theorem alive_out {F : List Tw} {id : Int} (h : id < 0 ∨ 16 ≤ id) : aliveF F id = false := by
  unfold aliveF inR
  rcases h with h | h
  · rw [decide_eq_false (by omega)]; rfl
  · rw [decide_eq_false (p := id < 16) (by omega)]; simp
theorem alive_zero (F : List Tw) : aliveF F 0 = true := by unfold aliveF inR; simp
theorem alive_in {F : List Tw} {id : Int} (h0 : 0 ≤ id) (h1 : id < 16) (h : id ≠ 0) : aliveF F id = (tw F id).a := by
  unfold aliveF inR
  simp [h0, h1, h]
theorem ret_b {a b : Bool} (h : a = b) : Ending.returned (.bool a) = .returned (.bool b) := by rw [h]
theorem ret_i {k : IntKind} {a b : Int} (h : a = b) : Ending.returned (.int k a) = .returned (.int k b) := by rw [h]
theorem alive_range {F : List Tw} {id : Int} (h : aliveF F id = true) : 0 ≤ id ∧ id < 16 := by
  unfold aliveF inR at h
  simp at h
  omega
def numF (F : List Tw) (id : Int) : Int := if aliveF F id = true then (tw F id).n else 0
def isSon (F : List Tw) (id : Int) : Bool := aliveF F id && !(id == 0)
def parP (F : List Tw) (id : Int) : Int := if isSon F id = true then (tw F id).p else 0
def parB (F : List Tw) (id : Int) : Int := if isSon F id = true then (tw F id).b else 0
/-- What has changed: new blocks, and those of S. -/
structure Chg (S : Nat → Prop) (w w' : World) : Prop where
  os : w'.os = w.os
  tape : w'.tape = w.tape
  output : w'.output = w.output
  size : w.heap.size ≤ w'.heap.size
  block : ∀ k, k < w.heap.size → ¬ S k → w'.heap[k]? = w.heap[k]?
theorem Chg.refl (S : Nat → Prop) (w : World) : Chg S w w := ⟨rfl, rfl, rfl, Nat.le_refl _, fun _ _ _ => rfl⟩
theorem Chg.trans {S : Nat → Prop} {a b c : World} (h : Chg S a b) (k : Chg S b c) : Chg S a c :=
  ⟨k.os.trans h.os, k.tape.trans h.tape, k.output.trans h.output, Nat.le_trans h.size k.size, fun i hi hs => (k.block i (Nat.lt_of_lt_of_le hi h.size) hs).trans (h.block i hi hs)⟩
theorem Chg.of_below {S : Nat → Prop} {w w' : World} (h : Below w.heap.size w w') : Chg S w w' := ⟨h.os, h.tape, h.output, h.size, fun k hk _ => h.block k hk⟩
theorem Chg.mono {S S' : Nat → Prop} {w w' : World} (h : Chg S w w') (hs : ∀ k, S k → S' k) : Chg S' w w' := ⟨h.os, h.tape, h.output, h.size, fun k hk hn => h.block k hk (fun e => hn (hs k e))⟩
theorem Chg.setCell {S : Nat → Prop} {a w : World} (h : Chg S a w) {p : Addr} (hp : S p.block) (u : Value) : Chg S a (w.setCell p u) :=
  h.trans ⟨rfl, rfl, rfl, by simp [World.setCell], fun k hk hn => Below.heap_setCell _ _ _ _ (fun e => hn (e ▸ hp))⟩
theorem Chg.below {S : Nat → Prop} {B : Nat} {a w w' : World} (h : Chg S w w') (hb : Below B a w) (hB : B ≤ w.heap.size) (hs : ∀ k, S k → B ≤ k) : Below B a w' :=
  ⟨h.os.trans hb.os, h.tape.trans hb.tape, h.output.trans hb.output, Nat.le_trans hb.size h.size, fun k hk => (h.block k (by omega) (fun e => by have := hs k e; omega)).trans (hb.block k hk)⟩
theorem Chg.old {S : Nat → Prop} {w w' : World} (h : Chg S w w') {g : Nat} {x : Obj} (hg : w.heap[g]? = some x) (hn : ¬ S g) : w'.heap[g]? = some x := (h.block g (Array.getElem?_eq_some_iff.1 hg).1 hn).trans hg
theorem At.chg {S : Nat → Prop} {w w' : World} {b : Nat} {T : TypeId} {F : List Tw} (h : At w b T F) (hc : Chg S w w') (hn : ¬ S b) : At w' b T F := ⟨h.1, hc.old h.2 hn⟩
theorem At.below {w w' : World} {b : Nat} {T : TypeId} {F : List Tw} (h : At w b T F) (hc : Below w.heap.size w w') : At w' b T F := h.chg (S := fun _ => False) (.of_below hc) (fun e => e)
theorem At.lt {w : World} {b : Nat} {T : TypeId} {F : List Tw} (h : At w b T F) : b < w.heap.size := (Array.getElem?_eq_some_iff.1 h.2).1
theorem ret_2 {a b c d : Value} (h : a = c) (k : b = d) : Ending.returned (.tuple #[a, b]) = .returned (.tuple #[c, d]) := by rw [h, k]
theorem ret_3 {a b c d x y : Value} (h : a = c) (k : b = d) (l : x = y) : Ending.returned (.tuple #[a, b, x]) = .returned (.tuple #[c, d, y]) := by rw [h, k, l]
theorem v_i {k : IntKind} {a b : Int} (h : b = a) : Value.int k a = .int k b := by rw [h]
theorem v_b {a b : Bool} (h : b = a) : Value.bool a = .bool b := by rw [h]
theorem set4 (l : List Value) (n : Nat) (h : n + 4 ≤ l.length) (a b c d : Value) : (((l.set n a).set (n + 1) b).set (n + 2) c).set (n + 3) d = l.take n ++ [a, b, c, d] ++ l.drop (n + 4) := by
  apply List.ext_getElem?
  intro k
  simp only [List.getElem?_set, List.length_set]
  rw [List.append_assoc]
  by_cases h1 : k < n
  · rw [List.getElem?_append_left (by rw [List.length_take]; omega), List.getElem?_take, if_pos h1, if_neg (by omega), if_neg (by omega), if_neg (by omega), if_neg (by omega)]
  · rw [List.getElem?_append_right (by rw [List.length_take]; omega), List.length_take, Nat.min_eq_left (by omega)]
    by_cases h2 : k < n + 4
    · rw [List.getElem?_append_left (by simp; omega)]
      obtain h3 | h3 | h3 | h3 : k = n ∨ k = n + 1 ∨ k = n + 2 ∨ k = n + 3 := by omega
      all_goals subst h3
      · rw [if_neg (by omega), if_neg (by omega), if_neg (by omega), if_pos rfl, if_pos (by omega), Nat.sub_self]; rfl
      · rw [if_neg (by omega), if_neg (by omega), if_pos rfl, if_pos (by omega), Nat.add_sub_cancel_left]; rfl
      · rw [if_neg (by omega), if_pos rfl, if_pos (by omega), Nat.add_sub_cancel_left]; rfl
      · rw [if_pos rfl, if_pos (by omega), Nat.add_sub_cancel_left]; rfl
    · rw [List.getElem?_append_right (by simp; omega), List.getElem?_drop, if_neg (by omega), if_neg (by omega), if_neg (by omega), if_neg (by omega)]
      congr 1
      simp
      omega
theorem At.put4 {w : World} {b : Nat} {T : TypeId} {F : List Tw} (h : At w b T F) {i : Nat} (hi : i < 16) (t : Tw) :
    At ((((w.setCell { block := b, off := i * 4 } (.bool t.a)).setCell { block := b, off := i * 4 + 1 } (.int .i64 t.p)).setCell { block := b, off := i * 4 + 2 } (.int .u64 t.b)).setCell { block := b, off := i * 4 + 3 } (.int .u64 t.n)) b T (F.set i t) := by
  refine ⟨by rw [List.length_set]; exact h.1, ?_⟩
  have h1 := heap_setCell_same w b (i * 4) _ T (.bool t.a) h.2
  have h2 := heap_setCell_same _ b (i * 4 + 1) _ T (.int .i64 t.p) h1
  have h3 := heap_setCell_same _ b (i * 4 + 2) _ T (.int .u64 t.b) h2
  have h4 := heap_setCell_same _ b (i * 4 + 3) _ T (.int .u64 t.n) h3
  have e : ((((fc F).set (i * 4) (.bool t.a)).set (i * 4 + 1) (.int .i64 t.p)).set (i * 4 + 2) (.int .u64 t.b)).set (i * 4 + 3) (.int .u64 t.n) = fc (F.set i t) := by
    rw [set4 _ _ (by rw [fc_len, h.1]; omega), ← fc_set F i (by rw [h.1]; exact hi) t]
    rfl
  rw [List.setIfInBounds_toArray, List.setIfInBounds_toArray, List.setIfInBounds_toArray, List.setIfInBounds_toArray, e] at h4
  exact h4
theorem chg4 (w : World) (b : Nat) (i : Nat) (v0 v1 v2 v3 : Value) : Chg (· = b) w ((((w.setCell { block := b, off := i * 4 } v0).setCell { block := b, off := i * 4 + 1 } v1).setCell { block := b, off := i * 4 + 2 } v2).setCell { block := b, off := i * 4 + 3 } v3) :=
  ((((Chg.refl (· = b) w).setCell (p := { block := b, off := i * 4 }) rfl v0).setCell (p := { block := b, off := i * 4 + 1 }) rfl v1).setCell (p := { block := b, off := i * 4 + 2 }) rfl v2).setCell (p := { block := b, off := i * 4 + 3 }) rfl v3
theorem fork_no {F : List Tw} {id p b n : Int} (h : forkC F id p b n ≠ 0) : forkF F id p b n = F := if_neg h
theorem drop_no {F : List Tw} {id : Int} (h : dropC F id ≠ 0) : dropF F id = F := if_neg h

/-! ### a forest that was grown: parents are alive, and elder -/
structure Ok (F : List Tw) : Prop where
  len : F.length = 16
  zero : tw F 0 = tz
  idle : ∀ id, (tw F id).a = false → tw F id = tz
  son : ∀ id, isSon F id = true → aliveF F (tw F id).p = true ∧ (tw F (tw F id).p).n ≤ (tw F id).b ∧ (tw F id).b < (tw F id).n
  pos : ∀ id, 0 ≤ (tw F id).n ∧ 0 ≤ (tw F id).b ∧ (tw F id).n < 18446744073709551616
abbrev St := Int × Int × Int
def stc (s : St) : List Value := [.int .i64 s.1, .int .u64 s.2.1, .int .u64 s.2.2]
def stcs (l : List St) : List Value := l.flatMap stc
theorem stcs_len : ∀ l : List St, (stcs l).length = l.length * 3
  | [] => rfl
  | s :: l => by
    show (stc s ++ stcs l).length = _
    rw [List.length_append, stcs_len l, List.length_cons]
    show 3 + l.length * 3 = _
    omega
theorem stcs_append (l k : List St) : stcs (l ++ k) = stcs l ++ stcs k := List.flatMap_append
theorem stcs_get : ∀ (l : List St) (i j : Nat) (h : i < l.length), j < 3 → (stcs l)[i * 3 + j]? = (stc l[i])[j]?
  | s :: l, 0, j, h, hj => by
    show (stc s ++ stcs l)[0 * 3 + j]? = _
    rw [Nat.zero_mul, Nat.zero_add, List.getElem?_append_left (by show j < 3; exact hj)]
    rfl
  | s :: l, i + 1, j, h, hj => by
    show (stc s ++ stcs l)[(i + 1) * 3 + j]? = _
    rw [List.getElem?_append_right (by show 3 ≤ _; omega), show (i + 1) * 3 + j - (stc s).length = i * 3 + j by show _ - 3 = _; omega, stcs_get l i j (by simpa using h) hj]
    rfl
/-- Behind a branch: its parents' steps. -/
def lineR (F : List Tw) : Nat → Int → List St
  | 0, _ => []
  | k + 1, id => if id = 0 then [] else ((tw F id).p, (tw F (tw F id).p).n, (tw F id).b) :: lineR F k (tw F id).p
def tailF (F : List Tw) (id : Int) : List St := lineR F (tw F id).n.toNat id
def lineF (F : List Tw) (id m : Int) : List St := (id, (tw F id).n, m) :: tailF F id
theorem isSon_of {F : List Tw} {id : Int} (h : aliveF F id = true) (hz : id ≠ 0) : isSon F id = true := by
  unfold isSon
  rw [h]
  simpa using hz
theorem lineR_fuel {F : List Tw} (ok : Ok F) : ∀ (k k' : Nat) (id : Int), aliveF F id = true → (tw F id).n.toNat ≤ k → (tw F id).n.toNat ≤ k' → lineR F k id = lineR F k' id
  | 0, k', id, ha, h, h' => by
    have hz : id = 0 := by
      apply Classical.byContradiction
      intro hz
      have h1 := ok.son id (isSon_of ha hz)
      have h2 := ok.pos (tw F id).p
      omega
    subst hz
    cases k' <;> simp [lineR]
  | k + 1, 0, id, ha, h, h' => (lineR_fuel ok 0 (k + 1) id ha h' h).symm
  | k + 1, k' + 1, id, ha, h, h' => by
    unfold lineR
    by_cases hz : id = 0
    · rw [if_pos hz, if_pos hz]
    · have h1 := ok.son id (isSon_of ha hz)
      have h2 := ok.pos (tw F id).p
      rw [if_neg hz, if_neg hz, lineR_fuel ok k k' _ h1.1 (by omega) (by omega)]
theorem tailF_zero (F : List Tw) : tailF F 0 = [] := by
  unfold tailF
  cases (tw F 0).n.toNat <;> simp [lineR]
theorem tailF_son {F : List Tw} (ok : Ok F) {id : Int} (ha : aliveF F id = true) (hz : id ≠ 0) : tailF F id = lineF F (tw F id).p (tw F id).b := by
  have h1 := ok.son id (isSon_of ha hz)
  have h2 := ok.pos (tw F id).p
  unfold tailF lineF
  obtain ⟨k, hk⟩ : ∃ k, (tw F id).n.toNat = k + 1 := ⟨(tw F id).n.toNat - 1, by omega⟩
  rw [hk]
  unfold lineR
  rw [if_neg hz]
  congr 1
  exact lineR_fuel ok _ _ _ h1.1 (by omega) (Nat.le_refl _)
/-- How many are elder. -/
def elder (F : List Tw) (x : Int) : Nat := F.countP fun t => t.a && decide (t.n < x)
theorem countP_lt {α : Type} {p q : α → Bool} : ∀ {l : List α}, (∀ a, p a = true → q a = true) → (∃ a, a ∈ l ∧ q a = true ∧ p a = false) → l.countP p < l.countP q
  | [], _, h => by obtain ⟨a, ha, _⟩ := h; cases ha
  | a :: l, hpq, h => by
    have hle : l.countP p ≤ l.countP q := List.countP_mono_left fun x _ hx => hpq x hx
    rw [List.countP_cons, List.countP_cons]
    obtain ⟨b, hb, h1, h2⟩ := h
    rcases List.mem_cons.1 hb with rfl | hb
    · rw [h1, h2]
      simp
      omega
    · have := countP_lt hpq ⟨b, hb, h1, h2⟩
      by_cases hp : p a = true
      · rw [if_pos hp, if_pos (hpq a hp)]; omega
      · rw [if_neg hp]
        split <;> omega
theorem tw_mem {F : List Tw} {id : Int} (h0 : 0 ≤ id) (h1 : id.toNat < F.length) : tw F id ∈ F := by
  unfold tw
  rw [List.getD_eq_getElem?_getD, List.getElem?_eq_getElem h1]
  exact List.getElem_mem h1
theorem elder_lt {F : List Tw} (ok : Ok F) {id : Int} (ha : aliveF F id = true) (hz : id ≠ 0) (hp : (tw F id).p ≠ 0) : elder F (tw F (tw F id).p).n < elder F (tw F id).n := by
  have h1 := ok.son id (isSon_of ha hz)
  obtain ⟨r0, r1⟩ := alive_range h1.1
  refine countP_lt (fun t ht => ?_) ⟨tw F (tw F id).p, tw_mem r0 (by rw [ok.len]; omega), ?_, ?_⟩
  · simp only [Bool.and_eq_true, decide_eq_true_eq] at ht ⊢
    exact ⟨ht.1, by omega⟩
  · simp only [Bool.and_eq_true, decide_eq_true_eq]
    exact ⟨by rw [← alive_in r0 r1 hp]; exact h1.1, by omega⟩
  · simp
theorem tail_len {F : List Tw} (ok : Ok F) : ∀ (k : Nat) (id : Int), aliveF F id = true → elder F (tw F id).n ≤ k → (tailF F id).length ≤ k + 1
  | k, id, ha, hk => by
    by_cases hz : id = 0
    · subst hz; rw [tailF_zero]; simp
    · rw [tailF_son ok ha hz]
      have h1 := ok.son id (isSon_of ha hz)
      show (tailF F (tw F id).p).length + 1 ≤ k + 1
      by_cases hp : (tw F id).p = 0
      · rw [hp, tailF_zero]; simp
      · have := elder_lt ok ha hz hp
        cases k with
        | zero => omega
        | succ k =>
          have := tail_len ok k _ h1.1 (by omega)
          omega
theorem elder_le {F : List Tw} (ok : Ok F) (id : Int) : elder F (tw F id).n ≤ 16 := by
  have := List.countP_le_length (p := fun t : Tw => t.a && decide (t.n < (tw F id).n)) (l := F)
  unfold elder
  have := ok.len
  omega
theorem tail_len17 {F : List Tw} (ok : Ok F) {id : Int} (ha : aliveF F id = true) : (tailF F id).length ≤ 17 := tail_len ok 16 id ha (elder_le ok id)
/-- Steps in a block. -/
def Sts (w : World) (blk : Nat) (l : List St) : Prop := ∃ (cs : Array Value) (t : TypeId), w.heap[blk]? = some (.cells cs t) ∧ ∀ (j : Nat) (u : Value), (stcs l)[j]? = some u → cs[j]? = some u
theorem Sts.chg {S : Nat → Prop} {w w' : World} {b : Nat} {l : List St} (h : Sts w b l) (hc : Chg S w w') (hn : ¬ S b) : Sts w' b l := by
  obtain ⟨cs, t, h1, h2⟩ := h
  exact ⟨cs, t, hc.old h1 hn, h2⟩
theorem Sts.below {w w' : World} {b : Nat} {l : List St} (h : Sts w b l) (hc : Below w.heap.size w w') : Sts w' b l := h.chg (S := fun _ => False) (.of_below hc) (fun e => e)
theorem Sts.lt {w : World} {b : Nat} {l : List St} (h : Sts w b l) : b < w.heap.size := by
  obtain ⟨cs, t, h1, h2⟩ := h
  exact (Array.getElem?_eq_some_iff.1 h1).1
theorem Sts.cell {w : World} {b : Nat} {l : List St} (h : Sts w b l) {i : Nat} (hi : i < l.length) :
    w.cell? { block := b, off := i * 3 } = some (.int .i64 l[i].1) ∧ w.cell? { block := b, off := i * 3 + 1 } = some (.int .u64 l[i].2.1) ∧ w.cell? { block := b, off := i * 3 + 2 } = some (.int .u64 l[i].2.2) := by
  obtain ⟨cs, t, h1, h2⟩ := h
  have H : ∀ j u, (stc l[i])[j]? = some u → j < 3 → w.cell? { block := b, off := i * 3 + j } = some u := fun j u hu hj => by
    rw [show w.cell? { block := b, off := i * 3 + j } = cs[i * 3 + j]? from cell_of_row w b (i * 3 + j) cs t (0, 0) h1]
    exact h2 _ _ (by rw [stcs_get l i j hi hj]; exact hu)
  exact ⟨H 0 _ rfl (by omega), H 1 _ rfl (by omega), H 2 _ rfl (by omega)⟩
theorem Sts.of_owns {w : World} {base : Nat} {e : TypeId} {v : Value} {l : List St} (h : w.ownsRow base e 3 v l.length (stcs l)) (hn : l ≠ []) : ∃ blk cap, v = .slice (some ⟨blk, 0, none⟩) l.length cap ∧ base ≤ blk ∧ l.length ≤ cap ∧ Sts w blk l := by
  obtain ⟨h1, h2⟩ := h
  rcases h2 with ⟨rfl, h3⟩ | ⟨g, cap, cur, rfl, hb, hg, hc, _, _, ht⟩
  · exact absurd (List.length_eq_zero_iff.1 h3) hn
  · refine ⟨g, cap, rfl, hb, hc, cur, e, hg, fun j u hu => ?_⟩
    rw [← ht, List.getElem?_take] at hu
    split at hu
    · simpa using hu
    · cases hu
end Go.Proofs.Ytaolpniigjmccaa.Wd
