/-
  The Go function calrule.Parse and all that it calls but Lex. Condition: the package's table of units holds m, h and d.
-/
import Derived.Test.YtonlbeonblpblaaDoorMinutes
import Derived.WideMake
import Derived.MapKept
import Derived.Maps.RangeWalk
import Derived.Test.YtonlbeonblpblaaDoorAllx6
import Derived.StillTailTactics
import Derived.Test.YtonlbeonblpblaaDoorAllx5
import Derived.Lib.Builder
import Derived.Lib.Hide
/-! ## The Go function lines (calrule): a new map of four entries. No condition. -/
namespace Go.Proofs.YtonlbeonblpblaaDoor.All
open Go.RowKit Go.Proofs.YtonlbeonblpblaaDoorW.PrintWords Go.Proofs.YtonlbeonblpblaaDoorW.PrintLast Go.Proofs.YtonlbeonblpblaaDoorW.PrintMore
set_option linter.unusedVariables false
set_option linter.unusedSimpArgs false

/-- A new key (a whole number) in a map that is known. -/
theorem run_mapUpdate_newInt {P : Program} (w : World) (mty kt et : TypeId) (r clock : Nat) (es : Array MapEntry) (k : Int) (val : Value) (hm : P.underlying mty = some (.map kt et)) (hk : P.underlying kt = some (.int .i64)) (hb : w.heap[r]? = some (.map es clock))
    (hf : Instr.findNow (.int .i64) (.int .i64 k) es.toList 0 = some none) :
    (Instr.mapUpdate mty (.map (some r)) (.int .i64 k) val).run P w = .ok () { w with heap := w.heap.setIfInBounds r (.map (es.push { key := .int .i64 k, val := val, born := clock }) (clock + 1)) } := by
  have hc : (Instr.checkKey false 10000 kt (.int .i64 k)).run P w = .ok () w := MapKept.run_checkKey (k := .int .i64 k) hk (by simp [MapKept.IsKey]) false 9999
  simp [Instr.mapUpdate, run_underlying hm, MapKept.run_getObj_map hb, hc, MapKept.run_findKey hk hf, MapKept.run_setObj_map _ hb, Result.andThen]
/-- The world with a map's new entry. -/
def putEntry (w : World) (r : Nat) (es : Array MapEntry) (clock : Nat) (k : Int) (v : Value) : World := { w with heap := w.heap.setIfInBounds r (.map (es.push { key := .int .i64 k, val := v, born := clock }) (clock + 1)) }
theorem mapAt_new (w : World) (o : Obj) : (w.alloc o).heap[w.heap.size]? = some o := by
  show (w.heap.push o)[w.heap.size]? = some o
  simp
theorem mapAt_old {w : World} {g : Nat} {x : Obj} (h : w.heap[g]? = some x) (o : Obj) : (w.alloc o).heap[g]? = some x := by
  have hlt := (Array.getElem?_eq_some_iff.1 h).1
  rw [← h]
  show (w.heap.push o)[g]? = _
  simp [Array.getElem?_push, Nat.ne_of_lt hlt]
theorem put_run {P : Program} (w : World) (mty kt et : TypeId) (r clock : Nat) (es : Array MapEntry) (k : Int) (val : Value) (hm : P.underlying mty = some (.map kt et)) (hk : P.underlying kt = some (.int .i64)) (hb : w.heap[r]? = some (.map es clock))
    (hf : Instr.findNow (.int .i64) (.int .i64 k) es.toList 0 = some none) :
    (Instr.mapUpdate mty (.map (some r)) (.int .i64 k) val).run P w = .ok () (putEntry w r es clock k val) := run_mapUpdate_newInt w mty kt et r clock es k val hm hk hb hf
theorem put_at {w : World} {r : Nat} {es : Array MapEntry} {clock : Nat} (hb : w.heap[r]? = some (.map es clock)) (k : Int) (v : Value) : (putEntry w r es clock k v).heap[r]? = some (.map (es.push { key := .int .i64 k, val := v, born := clock }) (clock + 1)) := by
  have hlt := (Array.getElem?_eq_some_iff.1 hb).1
  show (w.heap.setIfInBounds r _)[r]? = _
  simp [hlt]
theorem put_old {w : World} {r g : Nat} {x : Obj} (h : w.heap[g]? = some x) (hne : g ≠ r) (es : Array MapEntry) (clock : Nat) (k : Int) (v : Value) : (putEntry w r es clock k v).heap[g]? = some x := by
  show (w.heap.setIfInBounds r _)[g]? = _
  rw [Array.getElem?_setIfInBounds, if_neg (Ne.symm hne)]
  exact h
theorem put_size (w : World) (r : Nat) (es : Array MapEntry) (clock : Nat) (k : Int) (v : Value) : (putEntry w r es clock k v).heap.size = w.heap.size := by
  show (w.heap.setIfInBounds r _).size = _
  simp
theorem put_below {w0 w : World} {n r : Nat} (h : Below n w0 w) (hr : n ≤ r) (es : Array MapEntry) (clock : Nat) (k : Int) (v : Value) : Below n w0 (putEntry w r es clock k v) :=
  ⟨h.1, h.2, h.3, by rw [put_size]; exact h.4, fun i hi => by
    rw [← h.block i hi]
    show (w.heap.setIfInBounds r _)[i]? = _
    rw [Array.getElem?_setIfInBounds, if_neg (by omega)]⟩
theorem mapAt_size (w : World) (o : Obj) : (w.alloc o).heap.size = w.heap.size + 1 := by
  show (w.heap.push o).size = w.heap.size + 1
  simp
abbrev words1 : Array Value := #[Value.string { data := #[101, 97, 99, 104] }, Value.string { data := #[119, 114, 105, 116, 101] }, Value.string { data := #[102, 111, 114] }, Value.string { data := #[33] }]
abbrev words2 : Array Value := #[Value.string { data := #[101, 97, 99, 104] }, Value.string { data := #[35] }, Value.string { data := #[102, 111, 114] }, Value.string { data := #[33] }]
abbrev words3 : Array Value := #[Value.string { data := #[113, 117, 105, 101, 116] }, Value.string { data := #[35] }, Value.string { data := #[102, 111, 114] }, Value.string { data := #[33] }]
abbrev words4 : Array Value := #[Value.string { data := #[110, 101, 118, 101, 114] }, Value.string { data := #[97, 102, 116, 101, 114] }, Value.string { data := #[33] }]
/-- The entries of the four lines. -/
def linesE (b1 b2 b3 b4 : Nat) : Array MapEntry := #[{ key := .int .i64 1, val := .slice (some ⟨b1, 0, none⟩) 4 4, born := 0 }, { key := .int .i64 2, val := .slice (some ⟨b2, 0, none⟩) 4 4, born := 1 }, { key := .int .i64 3, val := .slice (some ⟨b3, 0, none⟩) 4 4, born := 2 }, { key := .int .i64 4, val := .slice (some ⟨b4, 0, none⟩) 3 3, born := 3 }]
def LinesAt (w : World) (base bm : Nat) : Prop := ∃ b1 b2 b3 b4 : Nat, base ≤ bm ∧ base ≤ b1 ∧ base ≤ b2 ∧ base ≤ b3 ∧ base ≤ b4 ∧ w.heap[bm]? = some (.map (linesE b1 b2 b3 b4) 4) ∧ w.heap[b1]? = some (.cells words1 9) ∧ w.heap[b2]? = some (.cells words2 9) ∧ w.heap[b3]? = some (.cells words3 9) ∧ w.heap[b4]? = some (.cells words4 9)
set_option maxHeartbeats 2000000 in
set_option maxRecDepth 100000 in
theorem calrule_lines.calls (w : World) : Calls Tryd.prog 15 #[] w fun e w' => ∃ bm : Nat, e = .returned (.map (some bm)) ∧ LinesAt w' w.heap.size bm ∧ Below w.heap.size w w' := by
  have hmk : ∀ W : World, (Instr.makeMap 53 none).run Tryd.prog W = .ok (.map (some W.heap.size)) (W.alloc (.map #[] 0)) := fun W => run_makeMap_plain W 53
  have u54 := Tryd.underlying53
  have u3 := Tryd.underlying3
  go_enter Tryd.func15, Tryd.ntmps15
  go_wp2
  have B0 : Below w.heap.size w ((w.alloc (Obj.map #[] 0)).alloc (Obj.cells words1 9)) := below_alloc (below_alloc (Below.refl _ _) _) _
  have M0 := mapAt_old (mapAt_new w (Obj.map #[] 0)) (Obj.cells words1 9)
  have A1 := mapAt_new (w.alloc (Obj.map #[] 0)) (Obj.cells words1 9)
  rw [mapAt_size] at A1
  rw [put_run (P := Tryd.prog) _ 53 3 55 _ 0 #[] 1 _ u54 u3 M0 rfl]
  have S1 : w.heap.size ≤ w.heap.size := Nat.le_refl _
  obtain ⟨W1, hW1⟩ : ∃ W_, putEntry ((w.alloc (Obj.map #[] 0)).alloc (Obj.cells words1 9)) w.heap.size #[] 0 1 (.slice (some ⟨w.heap.size + 1, 0, none⟩) 4 4) = W_ := ⟨_, rfl⟩
  have B1 := put_below B0 (Nat.le_refl _) #[] 0 1 (.slice (some ⟨w.heap.size + 1, 0, none⟩) 4 4)
  have M1 := put_at M0 1 (.slice (some ⟨w.heap.size + 1, 0, none⟩) 4 4)
  have A1 := put_old A1 (Nat.succ_ne_self _) #[] 0 1 (.slice (some ⟨w.heap.size + 1, 0, none⟩) 4 4)
  rw [hW1] at B1 M1 A1
  have Z1 : W1.heap.size = w.heap.size + 2 := by rw [← hW1, put_size, mapAt_size, mapAt_size]
  rw [hW1]
  replace M1 : W1.heap[w.heap.size]? = some (.map (#[{ key := .int .i64 1, val := .slice (some ⟨w.heap.size + 1, 0, none⟩) 4 4, born := 0 }] : Array MapEntry) 1) := M1
  clear hW1 B0 M0
  go_wp2
  have B2' := below_alloc B1 (Obj.cells words2 9)
  have M2' := mapAt_old M1 (Obj.cells words2 9)
  replace A1 := mapAt_old A1 (Obj.cells words2 9)
  have A2 := mapAt_new W1 (Obj.cells words2 9)
  rw [Z1] at A2
  rw [put_run (P := Tryd.prog) _ 53 3 55 _ 1 (#[{ key := .int .i64 1, val := .slice (some ⟨w.heap.size + 1, 0, none⟩) 4 4, born := 0 }] : Array MapEntry) 2 _ u54 u3 M2' rfl]
  have B2 := put_below B2' (Nat.le_refl _) (#[{ key := .int .i64 1, val := .slice (some ⟨w.heap.size + 1, 0, none⟩) 4 4, born := 0 }] : Array MapEntry) 1 2 (.slice (some ⟨w.heap.size + 2, 0, none⟩) 4 4)
  have M2 := put_at M2' 2 (.slice (some ⟨w.heap.size + 2, 0, none⟩) 4 4)
  replace A1 := put_old (r := w.heap.size) A1 (by omega) (#[{ key := .int .i64 1, val := .slice (some ⟨w.heap.size + 1, 0, none⟩) 4 4, born := 0 }] : Array MapEntry) 1 2 (.slice (some ⟨w.heap.size + 2, 0, none⟩) 4 4)
  replace A2 := put_old (r := w.heap.size) A2 (by omega) (#[{ key := .int .i64 1, val := .slice (some ⟨w.heap.size + 1, 0, none⟩) 4 4, born := 0 }] : Array MapEntry) 1 2 (.slice (some ⟨w.heap.size + 2, 0, none⟩) 4 4)
  obtain ⟨W2, hW2⟩ : ∃ W_, putEntry (W1.alloc (Obj.cells words2 9)) w.heap.size (#[{ key := .int .i64 1, val := .slice (some ⟨w.heap.size + 1, 0, none⟩) 4 4, born := 0 }] : Array MapEntry) 1 2 (.slice (some ⟨w.heap.size + 2, 0, none⟩) 4 4) = W_ := ⟨_, rfl⟩
  have Z2 : W2.heap.size = w.heap.size + 3 := by rw [← hW2, put_size, mapAt_size, Z1]
  rw [hW2] at B2 M2 A1 A2
  rw [hW2]
  replace M2 : W2.heap[w.heap.size]? = some (.map (#[{ key := .int .i64 1, val := .slice (some ⟨w.heap.size + 1, 0, none⟩) 4 4, born := 0 }, { key := .int .i64 2, val := .slice (some ⟨w.heap.size + 2, 0, none⟩) 4 4, born := 1 }] : Array MapEntry) 2) := M2
  clear hW2 B2' M2' B1 M1
  go_wp2
  have B3' := below_alloc B2 (Obj.cells words3 9)
  have M3' := mapAt_old M2 (Obj.cells words3 9)
  replace A1 := mapAt_old A1 (Obj.cells words3 9)
  replace A2 := mapAt_old A2 (Obj.cells words3 9)
  have A3 := mapAt_new W2 (Obj.cells words3 9)
  rw [Z2] at A3
  rw [put_run (P := Tryd.prog) _ 53 3 55 _ 2 (#[{ key := .int .i64 1, val := .slice (some ⟨w.heap.size + 1, 0, none⟩) 4 4, born := 0 }, { key := .int .i64 2, val := .slice (some ⟨w.heap.size + 2, 0, none⟩) 4 4, born := 1 }] : Array MapEntry) 3 _ u54 u3 M3' rfl]
  have B3 := put_below B3' (Nat.le_refl _) (#[{ key := .int .i64 1, val := .slice (some ⟨w.heap.size + 1, 0, none⟩) 4 4, born := 0 }, { key := .int .i64 2, val := .slice (some ⟨w.heap.size + 2, 0, none⟩) 4 4, born := 1 }] : Array MapEntry) 2 3 (.slice (some ⟨w.heap.size + 3, 0, none⟩) 4 4)
  have M3 := put_at M3' 3 (.slice (some ⟨w.heap.size + 3, 0, none⟩) 4 4)
  replace A1 := put_old (r := w.heap.size) A1 (by omega) (#[{ key := .int .i64 1, val := .slice (some ⟨w.heap.size + 1, 0, none⟩) 4 4, born := 0 }, { key := .int .i64 2, val := .slice (some ⟨w.heap.size + 2, 0, none⟩) 4 4, born := 1 }] : Array MapEntry) 2 3 (.slice (some ⟨w.heap.size + 3, 0, none⟩) 4 4)
  replace A2 := put_old (r := w.heap.size) A2 (by omega) (#[{ key := .int .i64 1, val := .slice (some ⟨w.heap.size + 1, 0, none⟩) 4 4, born := 0 }, { key := .int .i64 2, val := .slice (some ⟨w.heap.size + 2, 0, none⟩) 4 4, born := 1 }] : Array MapEntry) 2 3 (.slice (some ⟨w.heap.size + 3, 0, none⟩) 4 4)
  replace A3 := put_old (r := w.heap.size) A3 (by omega) (#[{ key := .int .i64 1, val := .slice (some ⟨w.heap.size + 1, 0, none⟩) 4 4, born := 0 }, { key := .int .i64 2, val := .slice (some ⟨w.heap.size + 2, 0, none⟩) 4 4, born := 1 }] : Array MapEntry) 2 3 (.slice (some ⟨w.heap.size + 3, 0, none⟩) 4 4)
  obtain ⟨W3, hW3⟩ : ∃ W_, putEntry (W2.alloc (Obj.cells words3 9)) w.heap.size (#[{ key := .int .i64 1, val := .slice (some ⟨w.heap.size + 1, 0, none⟩) 4 4, born := 0 }, { key := .int .i64 2, val := .slice (some ⟨w.heap.size + 2, 0, none⟩) 4 4, born := 1 }] : Array MapEntry) 2 3 (.slice (some ⟨w.heap.size + 3, 0, none⟩) 4 4) = W_ := ⟨_, rfl⟩
  have Z3 : W3.heap.size = w.heap.size + 4 := by rw [← hW3, put_size, mapAt_size, Z2]
  rw [hW3] at B3 M3 A1 A2 A3
  rw [hW3]
  replace M3 : W3.heap[w.heap.size]? = some (.map (#[{ key := .int .i64 1, val := .slice (some ⟨w.heap.size + 1, 0, none⟩) 4 4, born := 0 }, { key := .int .i64 2, val := .slice (some ⟨w.heap.size + 2, 0, none⟩) 4 4, born := 1 }, { key := .int .i64 3, val := .slice (some ⟨w.heap.size + 3, 0, none⟩) 4 4, born := 2 }] : Array MapEntry) 3) := M3
  clear hW3 B3' M3' B2 M2
  go_wp2
  have B4' := below_alloc B3 (Obj.cells words4 9)
  have M4' := mapAt_old M3 (Obj.cells words4 9)
  replace A1 := mapAt_old A1 (Obj.cells words4 9)
  replace A2 := mapAt_old A2 (Obj.cells words4 9)
  replace A3 := mapAt_old A3 (Obj.cells words4 9)
  have A4 := mapAt_new W3 (Obj.cells words4 9)
  rw [Z3] at A4
  rw [put_run (P := Tryd.prog) _ 53 3 55 _ 3 (#[{ key := .int .i64 1, val := .slice (some ⟨w.heap.size + 1, 0, none⟩) 4 4, born := 0 }, { key := .int .i64 2, val := .slice (some ⟨w.heap.size + 2, 0, none⟩) 4 4, born := 1 }, { key := .int .i64 3, val := .slice (some ⟨w.heap.size + 3, 0, none⟩) 4 4, born := 2 }] : Array MapEntry) 4 _ u54 u3 M4' rfl]
  have B4 := put_below B4' (Nat.le_refl _) (#[{ key := .int .i64 1, val := .slice (some ⟨w.heap.size + 1, 0, none⟩) 4 4, born := 0 }, { key := .int .i64 2, val := .slice (some ⟨w.heap.size + 2, 0, none⟩) 4 4, born := 1 }, { key := .int .i64 3, val := .slice (some ⟨w.heap.size + 3, 0, none⟩) 4 4, born := 2 }] : Array MapEntry) 3 4 (.slice (some ⟨w.heap.size + 4, 0, none⟩) 3 3)
  have M4 := put_at M4' 4 (.slice (some ⟨w.heap.size + 4, 0, none⟩) 3 3)
  replace A1 := put_old (r := w.heap.size) A1 (by omega) (#[{ key := .int .i64 1, val := .slice (some ⟨w.heap.size + 1, 0, none⟩) 4 4, born := 0 }, { key := .int .i64 2, val := .slice (some ⟨w.heap.size + 2, 0, none⟩) 4 4, born := 1 }, { key := .int .i64 3, val := .slice (some ⟨w.heap.size + 3, 0, none⟩) 4 4, born := 2 }] : Array MapEntry) 3 4 (.slice (some ⟨w.heap.size + 4, 0, none⟩) 3 3)
  replace A2 := put_old (r := w.heap.size) A2 (by omega) (#[{ key := .int .i64 1, val := .slice (some ⟨w.heap.size + 1, 0, none⟩) 4 4, born := 0 }, { key := .int .i64 2, val := .slice (some ⟨w.heap.size + 2, 0, none⟩) 4 4, born := 1 }, { key := .int .i64 3, val := .slice (some ⟨w.heap.size + 3, 0, none⟩) 4 4, born := 2 }] : Array MapEntry) 3 4 (.slice (some ⟨w.heap.size + 4, 0, none⟩) 3 3)
  replace A3 := put_old (r := w.heap.size) A3 (by omega) (#[{ key := .int .i64 1, val := .slice (some ⟨w.heap.size + 1, 0, none⟩) 4 4, born := 0 }, { key := .int .i64 2, val := .slice (some ⟨w.heap.size + 2, 0, none⟩) 4 4, born := 1 }, { key := .int .i64 3, val := .slice (some ⟨w.heap.size + 3, 0, none⟩) 4 4, born := 2 }] : Array MapEntry) 3 4 (.slice (some ⟨w.heap.size + 4, 0, none⟩) 3 3)
  replace A4 := put_old (r := w.heap.size) A4 (by omega) (#[{ key := .int .i64 1, val := .slice (some ⟨w.heap.size + 1, 0, none⟩) 4 4, born := 0 }, { key := .int .i64 2, val := .slice (some ⟨w.heap.size + 2, 0, none⟩) 4 4, born := 1 }, { key := .int .i64 3, val := .slice (some ⟨w.heap.size + 3, 0, none⟩) 4 4, born := 2 }] : Array MapEntry) 3 4 (.slice (some ⟨w.heap.size + 4, 0, none⟩) 3 3)
  obtain ⟨W4, hW4⟩ : ∃ W_, putEntry (W3.alloc (Obj.cells words4 9)) w.heap.size (#[{ key := .int .i64 1, val := .slice (some ⟨w.heap.size + 1, 0, none⟩) 4 4, born := 0 }, { key := .int .i64 2, val := .slice (some ⟨w.heap.size + 2, 0, none⟩) 4 4, born := 1 }, { key := .int .i64 3, val := .slice (some ⟨w.heap.size + 3, 0, none⟩) 4 4, born := 2 }] : Array MapEntry) 3 4 (.slice (some ⟨w.heap.size + 4, 0, none⟩) 3 3) = W_ := ⟨_, rfl⟩
  have Z4 : W4.heap.size = w.heap.size + 5 := by rw [← hW4, put_size, mapAt_size, Z3]
  rw [hW4] at B4 M4 A1 A2 A3 A4
  rw [hW4]
  replace M4 : W4.heap[w.heap.size]? = some (.map (#[{ key := .int .i64 1, val := .slice (some ⟨w.heap.size + 1, 0, none⟩) 4 4, born := 0 }, { key := .int .i64 2, val := .slice (some ⟨w.heap.size + 2, 0, none⟩) 4 4, born := 1 }, { key := .int .i64 3, val := .slice (some ⟨w.heap.size + 3, 0, none⟩) 4 4, born := 2 }, { key := .int .i64 4, val := .slice (some ⟨w.heap.size + 4, 0, none⟩) 3 3, born := 3 }] : Array MapEntry) 4) := M4
  clear hW4 B4' M4' B3 M3
  go_wp2
  go_ret
  exact ⟨_, rfl, ⟨_, _, _, _, Nat.le_refl _, by omega, by omega, by omega, by omega, M4, A1, A2, A3, A4⟩, B4⟩
end Go.Proofs.YtonlbeonblpblaaDoor.All
/-! ## Maps that are known entry by entry, and sets of kinds (map[int]bool) known by their members: the laws at the operations range and next; a new key. No program in sight but the types' numbers. -/
namespace Go.Proofs.YtonlbeonblpblaaDoor.All
open Go.RowKit Go.Proofs.YtonlbeonblpblaaDoorW.PrintWords Go.Proofs.YtonlbeonblpblaaDoorW.PrintLast Go.Proofs.YtonlbeonblpblaaDoorW.PrintMore
set_option linter.unusedVariables false
set_option linter.unusedSimpArgs false

/-- The entries of a set of kinds: those of p. -/
def KS (es : Array MapEntry) (clock : Nat) (p : Int → Bool) : Prop :=
  MapKept.Stamped es clock ∧ (∀ e ∈ es.toList, ∃ k, e.key = .int .i64 k ∧ e.val = .bool true ∧ p k = true) ∧ ∀ k, p k = true → ∃ e ∈ es.toList, e.key = .int .i64 k
def KindsAt (w : World) (b : Nat) (p : Int → Bool) : Prop := ∃ es clock, w.heap[b]? = some (.map es clock) ∧ KS es clock p
theorem KS.empty : KS #[] 0 (fun _ => false) := ⟨MapKept.stamped_empty 0, by simp, by simp⟩
theorem KS.key_ne {es : Array MapEntry} {clock : Nat} {p : Int → Bool} (h : KS es clock p) {k : Int} (hk : p k = false) : ∀ e ∈ es.toList, e.key ≠ .int .i64 k := fun e he hek => by
  obtain ⟨k', h1, h2, h3⟩ := h.2.1 e he
  rw [h1] at hek
  cases hek
  rw [hk] at h3
  cases h3
theorem KS.push {es : Array MapEntry} {clock : Nat} {p : Int → Bool} (h : KS es clock p) {k : Int} (hk : p k = false) : KS (es.push { key := .int .i64 k, val := .bool true, born := clock }) (clock + 1) (fun z => p z || z == k) := by
  refine ⟨MapKept.stamped_push h.1 (h.key_ne hk), fun e he => ?_, fun z hz => ?_⟩
  · simp only [Array.toList_push, List.mem_append, List.mem_singleton] at he
    rcases he with he | rfl
    · obtain ⟨k', h1, h2, h3⟩ := h.2.1 e he
      exact ⟨k', h1, h2, by simp [h3]⟩
    · exact ⟨k, rfl, rfl, by simp⟩
  · simp only [Bool.or_eq_true, beq_iff_eq] at hz
    rcases hz with hz | rfl
    · obtain ⟨e, he, hek⟩ := h.2.2 z hz
      exact ⟨e, by simp [he], hek⟩
    · exact ⟨{ key := .int .i64 z, val := .bool true, born := clock }, by simp, rfl⟩
theorem findNow_fresh (k : Int) : ∀ (l : List MapEntry) (i : Nat), (∀ e ∈ l, ∃ k', e.key = .int .i64 k' ∧ k' ≠ k) → Instr.findNow (.int .i64) (.int .i64 k) l i = some none
  | [], _, _ => rfl
  | e :: l, i, h => by
    obtain ⟨k', h1, h2⟩ := h e (.head _)
    unfold Instr.findNow
    rw [h1]
    simp only [Instr.sameNow, if_true]
    rw [show (k == k') = false from by simp [Ne.symm h2]]
    exact findNow_fresh k l (i + 1) (fun x hx => h x (.tail _ hx))
theorem KS.fresh {es : Array MapEntry} {clock : Nat} {p : Int → Bool} (h : KS es clock p) {k : Int} (hk : p k = false) : Instr.findNow (.int .i64) (.int .i64 k) es.toList 0 = some none :=
  findNow_fresh k _ _ fun e he => by
    obtain ⟨k', h1, h2, h3⟩ := h.2.1 e he
    refine ⟨k', h1, fun e1 => ?_⟩
    rw [← e1, h3] at hk
    cases hk
/-- How many there are: none, if p tells of none. -/
theorem KS.size_zero {es : Array MapEntry} {clock : Nat} {p : Int → Bool} (h : KS es clock p) (hp : ∀ k, p k = false) : es.size = 0 := by
  cases hs : es.toList with
  | nil => simpa using congrArg List.length hs
  | cons e l =>
    obtain ⟨k, h1, h2, h3⟩ := h.2.1 e (by rw [hs]; exact .head _)
    rw [hp k] at h3
    cases h3
theorem KS.size_pos {es : Array MapEntry} {clock : Nat} {p : Int → Bool} (h : KS es clock p) {k : Int} (hp : p k = true) : 0 < es.size := by
  obtain ⟨e, he, _⟩ := h.2.2 k hp
  have := List.length_pos_of_mem he
  simpa using this

/-- A set with a new member. -/
theorem putEntry_kinds {w : World} {r : Nat} {es : Array MapEntry} {clock : Nat} {p : Int → Bool} (hb : w.heap[r]? = some (.map es clock)) (h : KS es clock p) {k : Int} (hk : p k = false) : KindsAt (putEntry w r es clock k (.bool true)) r (fun z => p z || z == k) :=
  ⟨_, _, put_at hb k (.bool true), h.push hk⟩
theorem putEntry_grown (w : World) (r : Nat) (es : Array MapEntry) (clock : Nat) (k : Int) (v : Value) : w.grownBy (putEntry w r es clock k v) (some r) := ⟨rfl, rfl, rfl, by rw [put_size]; exact Nat.le_refl _, fun i hi hne => by
  show (w.heap.setIfInBounds r _)[i]? = _
  rw [Array.getElem?_setIfInBounds, if_neg (fun e => hne (by rw [e]))]⟩

section
variable {P : Program} (w : World) {ops : Array Oper} {rest : List Oper} {o : Oper} {a : Act} {Q : Exit → Act → World → Prop}

/-- 'range m', the map known. -/
theorem wpList_range_at (hg : o.guard = none) (m : Operand) (t : TypeId) (hop : o.op = Op.range t m) (k e : TypeId) (ht : P.underlying t = some (.map k e)) (b : Nat) (es : Array MapEntry) (clock : Nat)
    (hm : a.eval m = .map (some b)) (hb : w.heap[b]? = some (.map es clock))
    (hK : ∀ w' r, r = w.heap.size → w'.heap[r]? = some (.mapIter (some b) clock #[] clock) → w.grownBy w' none → w'.heap.size = w.heap.size + 1 → wpList P ops Q rest (a.put o.dst (.pointer (some ⟨r, 0, none⟩))) w') :
    wpList P ops Q (o :: rest) a w := by
  refine wpList_plain hg fun K' hK' => ?_
  have hrun := run_range_map (P := P) w t k e b es clock ht hb
  unfold Oper.wp
  simp [execOp, hop, hm, hrun, Result.andThen]
  exact hK' _ _ (hK _ _ rfl (heap_alloc_new w _) (World.grownBy_alloc w _ none) (by simp))

/-- The loop's step over such a map, its keys whole numbers. -/
theorem wpList_next_at (hg : o.guard = none) (it : Operand) (hop : o.op = Op.next it false) (r bm since c0 : Nat) (seen : Array Nat) (es : Array MapEntry) (clock : Nat)
    (hit : a.eval it = .pointer (some ⟨r, 0, none⟩)) (hr : w.heap[r]? = some (.mapIter (some bm) since seen c0)) (hb : w.heap[bm]? = some (.map es clock))
    (hold : ∀ x ∈ es.toList, x.born < since) (hsc : since ≤ c0) (hnd : (es.toList.map (·.born)).Nodup) (hkey : ∀ x ∈ es.toList, ∃ k, x.key = .int .i64 k)
    (hDone : (∀ x ∈ es.toList, seen.contains x.born = true) → wpList P ops Q rest (a.put o.dst (.tuple #[.bool false])) w)
    (hMore : ∀ (k : Int) (v : Value) (born : Nat) (w' : World), ({ key := .int .i64 k, val := v, born := born } : MapEntry) ∈ es.toList → seen.contains born = false → w.grownBy w' (some r) → w'.heap.size = w.heap.size →
      w'.heap[r]? = some (.mapIter (some bm) since (seen.push born) clock) → (leftOf es (seen.push born)).size < (leftOf es seen).size → (Instr.entry (.pointer (some ⟨r, 0, none⟩))).run P w' = .ok (.tuple #[.int .i64 k, v]) w' →
      wpList P ops Q rest (a.put o.dst (.tuple #[.bool true, .int .i64 k, v])) w') :
    wpList P ops Q (o :: rest) a w := by
  have hne : r ≠ bm := fun e => by rw [e, hb] at hr; cases hr
  refine wpList_plain hg fun K' hK' => ?_
  unfold Oper.wp
  rcases run_next_at (P := P) w o.type r bm since c0 seen es clock hr hb hold hsc with ⟨h0, hrun⟩ | ⟨e, he, w1, hal, hrun⟩
  · simp [execOp, hop, hit, hrun, Result.andThen]
    exact hK' _ _ (hDone fun x hx => by
      have := all_seen es seen h0 x hx
      simpa using this)
  · obtain ⟨hem, hes⟩ := mem_left he
    obtain ⟨k, hk⟩ := hkey e hem
    have hr1 : w1.heap[r]? = some (.mapIter (some bm) since seen c0) := by rcases hal with rfl | rfl <;> exact hr
    have hb1 : w1.heap[bm]? = some (.map es clock) := by rcases hal with rfl | rfl <;> exact hb
    have hset := MapKept.heap_set (o' := .mapIter (some bm) since (seen.push e.born) clock) hr1
    have hb' : (ChangeMaps.setBlock w1 r (.mapIter (some bm) since (seen.push e.born) clock)).heap[bm]? = some (.map es clock) := (hset.2 bm (fun e1 => hne e1.symm)).trans hb1
    have hen := run_entry_at (P := P) _ r bm since seen es clock e hset.1 hb' hem hnd
    have hgr : w.grownBy (ChangeMaps.setBlock w1 r (.mapIter (some bm) since (seen.push e.born) clock)) (some r) := by
      rcases hal with rfl | rfl <;> exact ⟨rfl, rfl, rfl, by simp [ChangeMaps.setBlock], fun i _ hi => hset.2 i (fun e1 => hi (by rw [e1]))⟩
    have hsz : (ChangeMaps.setBlock w1 r (.mapIter (some bm) since (seen.push e.born) clock)).heap.size = w.heap.size := by rcases hal with rfl | rfl <;> simp [ChangeMaps.setBlock]
    simp [execOp, hop, hit, hrun, Result.andThen]
    obtain ⟨key, v, born⟩ := e
    simp only at hk
    subst hk
    exact hK' _ _ (hMore k v born _ hem hes hgr hsz hset.1 (left_shrinks es seen _ he) hen)
end
end Go.Proofs.YtonlbeonblpblaaDoor.All
/-! ## The Go function begin (calrule): a new reader, before which all four kinds are open. No condition. -/
namespace Go.Proofs.YtonlbeonblpblaaDoor.All
open Go.RowKit Go.Proofs.YtonlbeonblpblaaDoorW.PrintWords Go.Proofs.YtonlbeonblpblaaDoorW.PrintLast Go.Proofs.YtonlbeonblpblaaDoorW.PrintMore
set_option linter.unusedVariables false
set_option linter.unusedSimpArgs false

/-- A reader behind a pointer: its two maps, its place, its rule. -/
def RdrAt (w : World) (base bx : Nat) (p : Int → Bool) (at_ kd ln fo : Int) : Prop :=
  ∃ bm bk : Nat, base ≤ bx ∧ w.heap[bx]? = some (.cells #[.map (some bm), .map (some bk), .int .i64 at_, .int .i64 kd, .int .i64 ln, .int .i64 fo] 72 (0, 0)) ∧ LinesAt w base bm ∧ KindsAt w bk p
def isKind (k : Int) : Bool := k == 1 || k == 2 || k == 3 || k == 4
theorem linesE_born (b1 b2 b3 b4 : Nat) : ∀ x ∈ (linesE b1 b2 b3 b4).toList, x.born < 4 := by simp [linesE]
theorem linesE_nodup (b1 b2 b3 b4 : Nat) : ((linesE b1 b2 b3 b4).toList.map (·.born)).Nodup := by simp [linesE]
theorem linesE_key (b1 b2 b3 b4 : Nat) : ∀ x ∈ (linesE b1 b2 b3 b4).toList, ∃ k, x.key = .int .i64 k := by simp [linesE]
theorem linesE_mem {b1 b2 b3 b4 : Nat} {k : Int} {v : Value} {born : Nat} (h : ({ key := .int .i64 k, val := v, born := born } : MapEntry) ∈ (linesE b1 b2 b3 b4).toList) : (born : Int) + 1 = k ∧ isKind k = true := by
  simp [linesE] at h
  rcases h with ⟨rfl, _, rfl⟩ | ⟨rfl, _, rfl⟩ | ⟨rfl, _, rfl⟩ | ⟨rfl, _, rfl⟩ <;> exact ⟨rfl, rfl⟩
theorem linesE_of {b1 b2 b3 b4 : Nat} {k : Int} (h : isKind k = true) : ∃ v born, ({ key := .int .i64 k, val := v, born := born } : MapEntry) ∈ (linesE b1 b2 b3 b4).toList ∧ (born : Int) + 1 = k := by
  simp [isKind] at h
  rcases h with ((rfl | rfl) | rfl) | rfl
  · exact ⟨.slice (some ⟨b1, 0, none⟩) 4 4, 0, by simp [linesE], rfl⟩
  · exact ⟨.slice (some ⟨b2, 0, none⟩) 4 4, 1, by simp [linesE], rfl⟩
  · exact ⟨.slice (some ⟨b3, 0, none⟩) 4 4, 2, by simp [linesE], rfl⟩
  · exact ⟨.slice (some ⟨b4, 0, none⟩) 3 3, 3, by simp [linesE], rfl⟩
/-- The kinds that have come, by their entries' numbers. -/
def cameBy (seen : Array Nat) (k : Int) : Bool := isKind k && seen.contains (k - 1).toNat
theorem cameBy_push (seen : Array Nat) (born : Nat) {k : Int} (hk : (born : Int) + 1 = k) (hi : isKind k = true) : (fun z => cameBy seen z || z == k) = cameBy (seen.push born) := by
  funext z
  unfold cameBy
  by_cases hz : isKind z = true
  · rw [hz]
    have hz0 : 1 ≤ z := by
      simp [isKind] at hz
      omega
    simp only [Bool.true_and, Array.contains_push]
    congr 1
    rw [Bool.eq_iff_iff]
    simp only [beq_iff_eq]
    omega
  · have hne : (z == k) = false := by
      rw [beq_eq_false_iff_ne]
      rintro rfl
      exact hz hi
    simp [hz, hne]

theorem rangeLeft_eq {w : World} {b r : Nat} {es : Array MapEntry} {clock since c0 : Nat} {m : Option Nat} {seen : Array Nat} (hb : w.heap[b]? = some (.map es clock)) (hr : w.heap[r]? = some (.mapIter m since seen c0)) : w.rangeLeft b r = (leftOf es seen).size := by
  simp only [World.rangeLeft, hb, hr]
theorem gk {w w' : World} {b i : Nat} {o : Obj} (hg : w.grownBy w' (some b)) (h : w.heap[i]? = some o) (hne : i ≠ b) : w'.heap[i]? = some o :=
  (hg.block i (Array.getElem?_eq_some_iff.1 h).1 (fun e => hne (by cases e; rfl))).trans h
theorem gn {w w' : World} {i : Nat} {o : Obj} (hg : w.grownBy w' none) (h : w.heap[i]? = some o) : w'.heap[i]? = some o :=
  (hg.block i (Array.getElem?_eq_some_iff.1 h).1 (fun e => by cases e)).trans h
theorem heap_ne {w : World} {i j : Nat} {o o' : Obj} (h : w.heap[i]? = some o) (h' : w.heap[j]? = some o') (hne : o ≠ o') : i ≠ j := fun e => by
  subst e
  rw [h] at h'
  exact hne (Option.some.inj h')
theorem heap_lt {w : World} {i : Nat} {o : Obj} (h : w.heap[i]? = some o) : i < w.heap.size := (Array.getElem?_eq_some_iff.1 h).1

set_option maxHeartbeats 2000000 in
set_option maxRecDepth 100000 in
theorem calrule_begin.calls (w : World) : Calls Tryd.prog 21 #[] w fun e w' => ∃ bx : Nat, e = .returned (.pointer (some ⟨bx, 0, none⟩)) ∧ RdrAt w' w.heap.size bx isKind 0 0 0 0 ∧ Below w.heap.size w w' := by
  have hmk : ∀ W : World, (Instr.makeMap 70 none).run Tryd.prog W = .ok (.map (some W.heap.size)) (W.alloc (.map #[] 0)) := fun W => run_makeMap_plain W 70
  have u54 := Tryd.underlying53
  have u55 := Tryd.underlying70
  have u3 := Tryd.underlying3
  go_enter Tryd.func21, Tryd.ntmps21
  go_wp2_with (first | (go_at_call 15; refine (calrule_lines.calls _).mono ?_; rintro e w1 ⟨bm, rfl, ⟨b1, b2, b3, b4, g0, g1, g2, g3, g4, hM, hW1, hW2, hW3, hW4⟩, hb1⟩) | (at_range; refine wpList_range_at _ rfl _ 53 rfl 3 55 u54 bm _ 4 rfl (mapAt_old (mapAt_old hM _) _) ?_; intro w2 r hr hri hg hs))
  go_frame
  obtain ⟨bk, hbk⟩ : ∃ bk, w1.heap.size = bk := ⟨_, rfl⟩
  have hX : w2.heap[bk + 1]? = some (.cells #[.map (some bm), .map (some bk), .int .i64 0, .int .i64 0, .int .i64 0, .int .i64 0] 72 (0, 0)) := by
    have := gn hg (mapAt_new (w1.alloc (.map #[] 0)) (.cells #[.map (some bm), .map (some w1.heap.size), .int .i64 0, .int .i64 0, .int .i64 0, .int .i64 0] 72))
    rw [mapAt_size] at this
    rw [← hbk]
    exact this
  have hK : w2.heap[bk]? = some (.map #[] 0) := by
    rw [← hbk]
    exact gn hg (mapAt_old (mapAt_new w1 _) _)
  have far : ∀ i o, w1.heap[i]? = some o → w2.heap[i]? = some o := fun i o h => gn hg (mapAt_old (mapAt_old h _) _)
  replace hM := far _ _ hM
  replace hW1 := far _ _ hW1
  replace hW2 := far _ _ hW2
  replace hW3 := far _ _ hW3
  replace hW4 := far _ _ hW4
  have hB : Below w.heap.size w w2 := (((hb1.alloc hb1.size _).alloc (by rw [mapAt_size]; have := hb1.size; omega) _).grown hg (by rw [mapAt_size, mapAt_size]; have := hb1.size; omega) (by simp))
  have hrz : r = bk + 2 := by rw [hr, mapAt_size, mapAt_size, hbk]
  have hlo : w.heap.size ≤ bk := by rw [← hbk]; exact hb1.size
  rw [hbk]
  clear hs hg far hb1 hr
  subst hrz
  clear hbk
  obtain ⟨W0, hW0⟩ : ∃ W, w2 = W := ⟨_, rfl⟩
  go_loopw [2] (fun v wr => ∃ seen c0, wr.heap[bk + 2]? = some (.mapIter (some bm) 4 seen c0) ∧ 4 ≤ c0 ∧ KindsAt wr bk (cameBy seen) ∧ (∀ i o, w2.heap[i]? = some o → i ≠ bk + 2 → i ≠ bk → wr.heap[i]? = some o) ∧ Below w.heap.size w wr) (fun _ wr => wr.rangeLeft bm (bk + 2))
  case atStart => exact ⟨#[], 4, hri, Nat.le_refl _, ⟨_, _, hK, by
    have : cameBy #[] = fun _ => false := by funext k; simp [cameBy]
    rw [this]
    exact KS.empty⟩, fun i o h _ _ => h, hB⟩
  case round =>
    obtain ⟨seen, c0, h1, h2, ⟨es, clock, h3, hks⟩, h4, h5⟩ := hrel
    have hMr := h4 _ _ hM (heap_ne hM hri (by simp)) (heap_ne hM hK (by simp [linesE]))
    have hXr := h4 _ _ hX (by omega) (by omega)
    go_wp2_with (at_next; refine wpList_next_at _ rfl _ rfl (bk + 2) bm 4 c0 seen (linesE b1 b2 b3 b4) 4 rfl h1 hMr (linesE_born _ _ _ _) h2 (linesE_nodup _ _ _ _) (linesE_key _ _ _ _) ?_ ?_)
    · intro hall
      go_wp2
      go_ret
      refine ⟨bk + 1, rfl, ⟨bm, bk, by omega, hXr, ⟨b1, b2, b3, b4, g0, g1, g2, g3, g4, hMr, h4 _ _ hW1 (heap_ne hW1 hri (by simp)) (heap_ne hW1 hK (by simp)), h4 _ _ hW2 (heap_ne hW2 hri (by simp)) (heap_ne hW2 hK (by simp)), h4 _ _ hW3 (heap_ne hW3 hri (by simp)) (heap_ne hW3 hK (by simp)), h4 _ _ hW4 (heap_ne hW4 hri (by simp)) (heap_ne hW4 hK (by simp))⟩, es, clock, h3, ?_⟩, h5⟩
      have e : cameBy seen = isKind := by
        funext k
        unfold cameBy
        cases hk : isKind k with
        | false => rfl
        | true =>
          obtain ⟨v, born, hm, hb⟩ := linesE_of (b1 := b1) (b2 := b2) (b3 := b3) (b4 := b4) hk
          have := hall _ (Array.mem_toList_iff.1 hm)
          simp only [Bool.true_and, show (k - 1).toNat = born from by omega]
          simpa using this
      rw [← e]
      exact hks
    · intro k v born w3 hmem hnew hg3 hs3 hri3 hlt hen
      obtain ⟨hkb, hki⟩ := linesE_mem (Array.mem_toList_iff.2 hmem)
      have hnew' : seen.contains born = false := by simpa using hnew
      have hpk : cameBy seen k = false := by
        unfold cameBy
        rw [hki, show (k - 1).toNat = born from by omega, hnew']
        rfl
      have hK3 := gk hg3 h3 (by omega)
      have hX3 := gk hg3 hXr (by omega)
      have hM3 := gk hg3 hMr (heap_ne hM hri (by simp))
      have c1 : w3.cell? ⟨bk + 1, 1, none⟩ = some (.map (some bk)) := by rw [Lib.cell_of_heap hX3]; rfl
      have hput := put_run (P := Tryd.prog) w3 70 3 4 bk clock es k (.bool true) u55 u3 hK3 (hks.fresh hpk)
      have HK := putEntry_kinds hK3 hks hpk
      rw [cameBy_push seen born hkb hki] at HK
      have HG := putEntry_grown w3 bk es clock k (.bool true)
      have hB3 : Below w.heap.size w w3 := h5.grown hg3 h5.size (fun j hj => by cases hj; omega)
      have hB4 : Below w.heap.size w (putEntry w3 bk es clock k (.bool true)) := hB3.grown HG hB3.size (fun j hj => by cases hj; omega)
      have HR := gk HG hri3 (by omega)
      have HM := gk HG hM3 (heap_ne hM hK (by simp [linesE]))
      have HL := rangeLeft_eq HM HR
      have HL0 := rangeLeft_eq hMr h1
      have HF : ∀ i o, w2.heap[i]? = some o → i ≠ bk + 2 → i ≠ bk → (putEntry w3 bk es clock k (.bool true)).heap[i]? = some o := fun i o hi n1 n2 => gk HG (gk hg3 (h4 i o hi n1 n2) n1) n2
      have HLT : (putEntry w3 bk es clock k (.bool true)).rangeLeft bm (bk + 2) < wr.rangeLeft bm (bk + 2) := by
        rw [HL, HL0]
        exact hlt
      have HREL := Lib.hid (And.intro HR (And.intro (Nat.le_refl 4) (And.intro HK (And.intro HF hB4))))
      have HLT' := Lib.hid HLT
      clear hmem hnew hs3 hkb hnew' hpk hki HL HL0 HF HK HR HM hB3 hB4 HLT hlt HG
      go_wp2
      go_roundw
      case rel => exact ⟨_, _, HREL.out⟩
      case measure => exact HLT'.out
end Go.Proofs.YtonlbeonblpblaaDoor.All
/-! ## The Go method next (calrule.reader). Conditions: the kinds that are open are kinds; of those with a word that the token fits, all have a Len there or none. -/
namespace Go.Proofs.YtonlbeonblpblaaDoor.All
open Go.RowKit Go.Proofs.YtonlbeonblpblaaDoorW.PrintWords Go.Proofs.YtonlbeonblpblaaDoorW.PrintLast Go.Proofs.YtonlbeonblpblaaDoorW.PrintMore
set_option linter.unusedVariables false
set_option linter.unusedSimpArgs false

def wordL (k : Int) : List ByteArray :=
  if k = 1 then [⟨#[101, 97, 99, 104]⟩, ⟨#[119, 114, 105, 116, 101]⟩, ⟨#[102, 111, 114]⟩, ⟨#[33]⟩]
  else if k = 2 then [⟨#[101, 97, 99, 104]⟩, ⟨#[35]⟩, ⟨#[102, 111, 114]⟩, ⟨#[33]⟩]
  else if k = 3 then [⟨#[113, 117, 105, 101, 116]⟩, ⟨#[35]⟩, ⟨#[102, 111, 114]⟩, ⟨#[33]⟩]
  else if k = 4 then [⟨#[110, 101, 118, 101, 114]⟩, ⟨#[97, 102, 116, 101, 114]⟩, ⟨#[33]⟩]
  else []
def fitW (w : ByteArray) (t : S69) : Bool := if w.toList = [35] then t.f0 == 2 else if w.toList = [33] then t.f0 == 2 else if t.f0 = 1 then t.f1.toList == w.toList else false
def fitsP (k : Int) (a : Nat) (t : S69) : Bool := match (wordL k)[a]? with | none => false | some w => fitW w t
def hashP (k : Int) (a : Nat) : Bool := match (wordL k)[a]? with | none => false | some w => w.toList == [35]
def leftP (p : Int → Bool) (a : Nat) (t : S69) (k : Int) : Bool := p k && fitsP k a t
def anyP (q : Int → Bool) : Bool := q 1 || q 2 || q 3 || q 4
def nextE (p : Int → Bool) (a : Nat) (t : S69) : Int := if anyP (leftP p a t) = true then if t.f0 = 2 then if t.f2 = 0 then 2 else 0 else 0 else 3
def longP (p : Int → Bool) (a : Nat) (t : S69) : Bool := anyP (fun k => leftP p a t k && hashP k a)
def nextLn (p : Int → Bool) (a : Nat) (t : S69) (ln : Int) : Int := if t.f0 = 2 then if longP p a t = true then t.f2 else ln else ln
def nextFo (p : Int → Bool) (a : Nat) (t : S69) (fo : Int) : Int := if t.f0 = 2 then if longP p a t = true then fo else t.f2 else fo
theorem fit_f (w : ByteArray) (t : S69) : calrule_fits.f t.f0 t.f1 t.f2 t.f3 w = some (fitW w t) := by
  unfold calrule_fits.f fitW
  split
  · rfl
  · split
    · rfl
    · split <;> rfl

/-- A kind's line, looked up. -/
theorem lines_row {W : World} {bm b1 b2 b3 b4 : Nat} (hM : W.heap[bm]? = some (.map (linesE b1 b2 b3 b4) 4)) (h1 : W.heap[b1]? = some (.cells words1 9)) (h2 : W.heap[b2]? = some (.cells words2 9)) (h3 : W.heap[b3]? = some (.cells words3 9)) (h4 : W.heap[b4]? = some (.cells words4 9)) {k : Int} (hk : isKind k = true) :
    ∃ b n, (∀ W' : World, W'.heap[bm]? = some (.map (linesE b1 b2 b3 b4) 4) → (Instr.lookup 53 (.map (some bm)) (.int .i64 k) false).run Tryd.prog W' = .ok (.slice (some ⟨b, 0, none⟩) n n) W') ∧ W.heap[b]? = some (.cells ((wordL k).map Value.string).toArray 9) ∧ n = (wordL k).length := by
  have u54 := Tryd.underlying53
  have u3 := Tryd.underlying3
  have hc : ∀ (W' : World) (b : Bool), (Instr.checkKey b 10000 3 (.int .i64 k)).run Tryd.prog W' = .ok () W' := fun W' b => MapKept.run_checkKey (k := .int .i64 k) u3 (by simp [MapKept.IsKey]) b 9999
  simp only [isKind, Bool.or_eq_true, beq_iff_eq] at hk
  rcases hk with ((rfl | rfl) | rfl) | rfl
  · refine ⟨b1, 4, fun W' hW => ?_, h1, rfl⟩
    have hf : Instr.findNow (.int .i64) (.int .i64 1) (linesE b1 b2 b3 b4).toList 0 = some (some (0, .slice (some ⟨b1, 0, none⟩) 4 4)) := rfl
    simp [Instr.lookup, run_underlying u54, MapKept.run_getObj_map hW, hc, MapKept.run_findKey u3 hf, Result.andThen]
  · refine ⟨b2, 4, fun W' hW => ?_, h2, rfl⟩
    have hf : Instr.findNow (.int .i64) (.int .i64 2) (linesE b1 b2 b3 b4).toList 0 = some (some (1, .slice (some ⟨b2, 0, none⟩) 4 4)) := rfl
    simp [Instr.lookup, run_underlying u54, MapKept.run_getObj_map hW, hc, MapKept.run_findKey u3 hf, Result.andThen]
  · refine ⟨b3, 4, fun W' hW => ?_, h3, rfl⟩
    have hf : Instr.findNow (.int .i64) (.int .i64 3) (linesE b1 b2 b3 b4).toList 0 = some (some (2, .slice (some ⟨b3, 0, none⟩) 4 4)) := rfl
    simp [Instr.lookup, run_underlying u54, MapKept.run_getObj_map hW, hc, MapKept.run_findKey u3 hf, Result.andThen]
  · refine ⟨b4, 3, fun W' hW => ?_, h4, rfl⟩
    have hf : Instr.findNow (.int .i64) (.int .i64 4) (linesE b1 b2 b3 b4).toList 0 = some (some (3, .slice (some ⟨b4, 0, none⟩) 3 3)) := rfl
    simp [Instr.lookup, run_underlying u54, MapKept.run_getObj_map hW, hc, MapKept.run_findKey u3 hf, Result.andThen]
theorem run_len_map {W : World} {b : Nat} {es : Array MapEntry} {clock : Nat} (hb : W.heap[b]? = some (.map es clock)) (ty : TypeId) : (Builtin.len_ #[70] ty #[.map (some b)]).run Tryd.prog W = .ok (.int .i64 es.size) W := by
  have u55 := Tryd.underlying70
  simp [Builtin.len_, run_underlying u55, MapKept.run_getObj_map hb, goInt, Result.andThen]

/-- The kinds of q that have come. -/
def keyIs (k : Int) (v : Value) : Bool := match v with | .int _ z => z == k | _ => false
def cameE (es : Array MapEntry) (seen : Array Nat) (q : Int → Bool) (k : Int) : Bool := q k && es.toList.any fun e => seen.contains e.born && keyIs k e.key
theorem came_none (es : Array MapEntry) (q : Int → Bool) : cameE es #[] q = fun _ => false := by
  funext k
  simp [cameE]
theorem any_push {es : Array MapEntry} (hn : (es.toList.map (·.born)).Nodup) {seen : Array Nat} {k : Int} {v : Value} {born : Nat} (hm : ({ key := .int .i64 k, val := v, born := born } : MapEntry) ∈ es.toList) (z : Int) :
    (es.toList.any fun e => (seen.push born).contains e.born && keyIs z e.key) = ((es.toList.any fun e => seen.contains e.born && keyIs z e.key) || z == k) := by
  rw [Bool.eq_iff_iff]
  simp only [List.any_eq_true, Bool.or_eq_true, Bool.and_eq_true, contains_push, beq_iff_eq]
  constructor
  · rintro ⟨e, he, hs | hs, hk⟩
    · exact .inl ⟨e, he, hs, hk⟩
    · right
      have := born_inj hn he hm hs
      rw [this] at hk
      have : (k == z) = true := hk
      exact (beq_iff_eq.1 this).symm
  · rintro (⟨e, he, hs, hk⟩ | rfl)
    · exact ⟨e, he, .inl hs, hk⟩
    · exact ⟨_, hm, .inr rfl, by show (z == z) = true; exact beq_self_eq_true z⟩
theorem came_push {es : Array MapEntry} (hn : (es.toList.map (·.born)).Nodup) {seen : Array Nat} {k : Int} {v : Value} {born : Nat} (hm : ({ key := .int .i64 k, val := v, born := born } : MapEntry) ∈ es.toList) {q : Int → Bool} (hq : q k = true) :
    (fun z => cameE es seen q z || z == k) = cameE es (seen.push born) q := by
  funext z
  unfold cameE
  rw [any_push hn hm z]
  by_cases hz : z = k
  · subst hz
    simp [hq]
  · rw [beq_eq_false_iff_ne.2 hz]
    simp
theorem came_stays {es : Array MapEntry} (hn : (es.toList.map (·.born)).Nodup) {seen : Array Nat} {k : Int} {v : Value} {born : Nat} (hm : ({ key := .int .i64 k, val := v, born := born } : MapEntry) ∈ es.toList) {q : Int → Bool} (hq : q k = false) :
    cameE es (seen.push born) q = cameE es seen q := by
  funext z
  unfold cameE
  rw [any_push hn hm z]
  by_cases hz : z = k
  · subst hz
    simp [hq]
  · rw [beq_eq_false_iff_ne.2 hz]
    simp
theorem came_new {es : Array MapEntry} {clock : Nat} {p : Int → Bool} (h : KS es clock p) {seen : Array Nat} {k : Int} {v : Value} {born : Nat} (hm : ({ key := .int .i64 k, val := v, born := born } : MapEntry) ∈ es.toList) (hs : seen.contains born = false) (q : Int → Bool) : cameE es seen q k = false := by
  unfold cameE
  have : (es.toList.any fun e => seen.contains e.born && keyIs k e.key) = false := by
    rw [List.any_eq_false]
    intro e he hx
    simp only [Bool.and_eq_true] at hx
    obtain ⟨k', h1, h2, h3⟩ := h.2.1 e he
    rw [h1] at hx
    have hk : (k' == k) = true := hx.2
    obtain rfl := beq_iff_eq.1 hk
    have e1 := entry_eq_of_key (((MapKept.stamped_iff es clock).1 h.1).2.2) he hm h1
    rw [e1] at hx
    rw [hs] at hx
    cases hx.1
  rw [this, Bool.and_false]
theorem came_all {es : Array MapEntry} {clock : Nat} {p : Int → Bool} (h : KS es clock p) {seen : Array Nat} (hall : ∀ x ∈ es.toList, seen.contains x.born = true) {q : Int → Bool} (hq : ∀ k, q k = true → p k = true) : cameE es seen q = q := by
  funext k
  unfold cameE
  cases hk : q k with
  | false => rfl
  | true =>
    obtain ⟨e, he, hek⟩ := h.2.2 k (hq k hk)
    simp only [Bool.true_and, List.any_eq_true, Bool.and_eq_true]
    exact ⟨e, he, hall e he, by rw [hek]; show (k == k) = true; exact beq_self_eq_true k⟩
theorem bo {w w' : World} {g : Nat} {x : Obj} (h : w.heap[g]? = some x) (hb : Below w.heap.size w w') : w'.heap[g]? = some x := (hb.block g (Array.getElem?_eq_some_iff.1 h).1).trans h
theorem below_grown {w w' : World} (h : Below w.heap.size w w') (row : Option Nat) : w.grownBy w' row := ⟨h.os, h.tape, h.output, h.size, fun i hi _ => h.block i hi⟩
theorem g_set (w : World) (b i : Nat) (v : Value) : w.grownBy (w.setCell ⟨b, i, none⟩ v) (some b) := ⟨rfl, rfl, rfl, by simp [World.setCell], fun k hk hne => Below.heap_setCell w ⟨b, i, none⟩ v k (fun e => hne (by rw [e]))⟩
theorem next_end {w wr W' : World} {base bx bm bl b1 b2 b3 b4 : Nat} {es' : Array MapEntry} {clock' : Nat} {q : Int → Bool} {a' kd ln fo : Int} (r7 : w.grownBy wr none) (hbx : base ≤ bx) (hG : wr.grownBy W' (some bx))
    (hX : W'.heap[bx]? = some (.cells #[.map (some bm), .map (some bl), .int .i64 a', .int .i64 kd, .int .i64 ln, .int .i64 fo] 72 (0, 0)))
    (g0 : base ≤ bm) (g1 : base ≤ b1) (g2 : base ≤ b2) (g3 : base ≤ b3) (g4 : base ≤ b4) (hM : wr.heap[bm]? = some (.map (linesE b1 b2 b3 b4) 4)) (h1 : wr.heap[b1]? = some (.cells words1 9)) (h2 : wr.heap[b2]? = some (.cells words2 9)) (h3 : wr.heap[b3]? = some (.cells words3 9)) (h4 : wr.heap[b4]? = some (.cells words4 9))
    (hL : wr.heap[bl]? = some (.map es' clock')) (hS : KS es' clock' q) (n0 : bm ≠ bx) (n1 : b1 ≠ bx) (n2 : b2 ≠ bx) (n3 : b3 ≠ bx) (n4 : b4 ≠ bx) (nl : bl ≠ bx) : w.grownBy W' (some bx) ∧ RdrAt W' base bx q a' kd ln fo :=
  ⟨⟨hG.os.trans r7.os, hG.tape.trans r7.tape, hG.output.trans r7.output, Nat.le_trans r7.size hG.size, fun i hi hne => (hG.block i (Nat.lt_of_lt_of_le hi r7.size) hne).trans (r7.block i hi (by simp))⟩,
    bm, bl, hbx, hX, ⟨b1, b2, b3, b4, g0, g1, g2, g3, g4, gk hG hM n0, gk hG h1 n1, gk hG h2 n2, gk hG h3 n3, gk hG h4 n4⟩, es', clock', gk hG hL nl, hS⟩
theorem left_le {p : Int → Bool} {a : Nat} {t : S69} {k : Int} (h : leftP p a t k = true) : p k = true ∧ fitsP k a t = true := by
  unfold leftP at h
  simpa using h

set_option maxHeartbeats 2000000 in
set_option maxRecDepth 100000 in
theorem calrule_next.calls (t : S69) (base bx a : Nat) (p : Int → Bool) (kd ln fo : Int) (w : World) (h : RdrAt w base bx p a kd ln fo) (ha : a ≤ 100) (hp : ∀ k, p k = true → isKind k = true) (hu : ∀ k k', leftP p a t k = true → leftP p a t k' = true → hashP k a = hashP k' a) :
    Calls Tryd.prog 22 #[.pointer (some ⟨bx, 0, none⟩), .agg #[.int .i64 t.f0, .string t.f1, .int .i64 t.f2, .int .i64 t.f3]] w fun e w' => e = .returned (.int .i64 (nextE p a t)) ∧ w.grownBy w' (some bx) ∧
      (nextE p a t = 0 → RdrAt w' base bx (leftP p a t) (a + 1 : Nat) kd (nextLn p a t ln) (nextFo p a t fo)) := by
  have hmk : ∀ W : World, (Instr.makeMap 70 none).run Tryd.prog W = .ok (.map (some W.heap.size)) (W.alloc (.map #[] 0)) := fun W => run_makeMap_plain W 70
  have u54 := Tryd.underlying53
  have u55 := Tryd.underlying70
  have u3 := Tryd.underlying3
  obtain ⟨bm, bk, hbx, hX, ⟨b1, b2, b3, b4, g0, g1, g2, g3, g4, hM, hW1, hW2, hW3, hW4⟩, es, clock, hK, hks⟩ := h
  have c1 : w.cell? ⟨bx, 1, none⟩ = some (.map (some bk)) := by rw [Lib.cell_of_heap hX]; rfl
  have lx := heap_lt hX
  have lk := heap_lt hK
  have lm := heap_lt hM
  have l1 := heap_lt hW1
  have l2 := heap_lt hW2
  have l3 := heap_lt hW3
  have l4 := heap_lt hW4
  go_enter Tryd.func22, Tryd.ntmps22
  go_wp2_with (at_range; refine wpList_range_at _ rfl _ 70 rfl 3 4 u55 bk es clock rfl (mapAt_old (mapAt_old hK _) _) ?_; intro w2 r hr hri hg hs)
  try go_frame
  obtain ⟨B, hB⟩ : ∃ B, w.heap.size = B := ⟨_, rfl⟩
  have hT : w2.heap[B]? = some (.cells #[.int .i64 t.f0, .string t.f1, .int .i64 t.f2, .int .i64 t.f3] 69 (0, 0)) := by
    rw [← hB]
    exact gn hg (mapAt_old (mapAt_new w _) _)
  have hL : w2.heap[B + 1]? = some (.map #[] 0) := by
    have := gn hg (mapAt_new (w.alloc (.cells #[.int .i64 t.f0, .string t.f1, .int .i64 t.f2, .int .i64 t.f3] 69)) (.map #[] 0))
    rw [mapAt_size, hB] at this
    exact this
  have hg0 : w.grownBy w2 none := ((World.grownBy_alloc w _ none).trans (World.grownBy_alloc _ _ none)).trans hg
  have hrz : r = B + 2 := by rw [hr, mapAt_size, mapAt_size, hB]
  have hz2 : w2.heap.size = B + 3 := by rw [hs, mapAt_size, mapAt_size, hB]
  rw [hB]
  rw [hB] at lx lk lm l1 l2 l3 l4
  have HZ := Lib.hid hB
  clear hs hg hr hB
  subst hrz
  clear c1
  replace hX := gn hg0 hX
  replace hM := gn hg0 hM
  replace hK := gn hg0 hK
  replace hW1 := gn hg0 hW1
  replace hW2 := gn hg0 hW2
  replace hW3 := gn hg0 hW3
  replace hW4 := gn hg0 hW4
  have HG0 := Lib.hid hg0
  clear hg0 hz2
  go_loopw [6] (fun v wr => ∃ seen c0 lb es' clock', v = .bool lb ∧ wr.heap[B + 2]? = some (.mapIter (some bk) clock seen c0) ∧ clock ≤ c0 ∧ wr.heap[B + 1]? = some (.map es' clock') ∧ KS es' clock' (cameE es seen (leftP p a t)) ∧
      (∀ k, cameE es seen (leftP p a t) k = true → lb = hashP k a) ∧ (∀ i o, w2.heap[i]? = some o → i ≠ B + 2 → i ≠ B + 1 → wr.heap[i]? = some o) ∧ w.grownBy wr none) (fun _ wr => wr.rangeLeft bk (B + 2))
  case atStart => exact ⟨#[], clock, false, #[], 0, rfl, hri, Nat.le_refl _, hL, by rw [came_none]; exact KS.empty, (fun k hk => by rw [came_none] at hk; cases hk), fun i o h _ _ => h, HG0.out⟩
  case round =>
    obtain ⟨seen, c0, lb, es', clock', rfl, r1, r2, r3, r4, r5, r6, r7⟩ := hrel
    have hKr := r6 _ _ hK (by omega) (by omega)
    have hXr := r6 _ _ hX (by omega) (by omega)
    have hMr := r6 _ _ hM (by omega) (by omega)
    have hTr := r6 _ _ hT (by omega) (by omega)
    go_wp2_with (at_next; refine wpList_next_at _ rfl _ rfl (B + 2) bk clock c0 seen es clock rfl r1 hKr hks.1.1 r2 hks.1.2.1 (fun x hx => by obtain ⟨k, hk, _⟩ := hks.2.1 x hx; exact ⟨k, hk⟩) ?_ ?_)
    · intro hall
      have hq := came_all hks (seen := seen) (q := leftP p a t) (fun x hx => by
        have := hall x (Array.mem_toList_iff.1 hx)
        simpa using this) (fun k hk => (left_le hk).1)
      rw [hq] at r4 r5
      clear hq
      have R5 := Lib.hid r5
      clear r5
      have hlen := run_len_map r3
      have t0 : wr.cell? ⟨B, 0, none⟩ = some (.int .i64 t.f0) := by rw [Lib.cell_of_heap hTr]; rfl
      have t2 : wr.cell? ⟨B, 2, none⟩ = some (.int .i64 t.f2) := by rw [Lib.cell_of_heap hTr]; rfl
      have x2 : wr.cell? ⟨bx, 2, none⟩ = some (.int .i64 (a : Int)) := by rw [Lib.cell_of_heap hXr]; rfl
      have x1 : wr.cell? ⟨bx, 1, none⟩ = some (.map (some bk)) := by rw [Lib.cell_of_heap hXr]; rfl
      have x4 : wr.cell? ⟨bx, 4, none⟩ = some (.int .i64 ln) := by rw [Lib.cell_of_heap hXr]; rfl
      have x5 : wr.cell? ⟨bx, 5, none⟩ = some (.int .i64 fo) := by rw [Lib.cell_of_heap hXr]; rfl
      have f1 : wr.frozen? ⟨bx, 1, none⟩ = false := Lib.frozen_of_heap hXr 1
      have f2 : wr.frozen? ⟨bx, 2, none⟩ = false := Lib.frozen_of_heap hXr 2
      have f4 : wr.frozen? ⟨bx, 4, none⟩ = false := Lib.frozen_of_heap hXr 4
      have f5 : wr.frozen? ⟨bx, 5, none⟩ = false := Lib.frozen_of_heap hXr 5
      cases hany : anyP (leftP p a t) with
      | false =>
        have hnone : ∀ k, leftP p a t k = false := fun k => by
          cases hk : leftP p a t k with
          | false => rfl
          | true =>
            have hi := hp k (left_le hk).1
            simp only [isKind, Bool.or_eq_true, beq_iff_eq] at hi
            simp only [anyP, Bool.or_eq_false_iff] at hany
            rcases hi with ((rfl | rfl) | rfl) | rfl
            · rw [hk] at hany; cases hany.1.1.1
            · rw [hk] at hany; cases hany.1.1.2
            · rw [hk] at hany; cases hany.1.2
            · rw [hk] at hany; cases hany.2
        have hz := r4.size_zero hnone
        rw [hz] at hlen
        have he := Lib.hid (show nextE p a t = 3 by unfold nextE; rw [hany]; rfl)
        have HA := Lib.hid hany
        clear hz hnone hany hall
        go_wp2
        go_ret
        exact ⟨by rw [he.out]; rfl, ⟨r7.os, r7.tape, r7.output, r7.size, fun i hi _ => r7.block i hi (by simp)⟩, fun h => by rw [he.out] at h; cases h⟩
      | true =>
        have hpos : 0 < es'.size := by
          simp only [anyP, Bool.or_eq_true] at hany
          rcases hany with ((h | h) | h) | h <;> exact r4.size_pos h
        have q1 : ((es'.size : Int) == 0) = false := by rw [beq_eq_false_iff_ne]; omega
        have q2 : (es'.size == 0) = false := by rw [beq_eq_false_iff_ne]; omega
        have HA := Lib.hid hany
        have R6 := Lib.hid r6
        clear hany hall r6
        have hhash : lb = longP p a t := by
          have hany := HA.out
          simp only [anyP, Bool.or_eq_true] at hany
          have hl : ∀ k, leftP p a t k = true → (k = 1 ∨ k = 2 ∨ k = 3 ∨ k = 4) → lb = longP p a t := fun k hk hk4 => by
            have h1 := R5.out k hk
            have h2 : ∀ z, leftP p a t z = true → hashP z a = lb := fun z hz => (R5.out z hz).symm
            have h3 : ∀ z, (leftP p a t z && hashP z a) = (leftP p a t z && lb) := fun z => by
              cases hz : leftP p a t z with
              | false => rfl
              | true => rw [h2 z hz]
            show lb = (((leftP p a t 1 && hashP 1 a) || (leftP p a t 2 && hashP 2 a)) || (leftP p a t 3 && hashP 3 a) || (leftP p a t 4 && hashP 4 a))
            rw [h3 1, h3 2, h3 3, h3 4, ← Bool.and_or_distrib_right, ← Bool.and_or_distrib_right, ← Bool.and_or_distrib_right]
            have : (leftP p a t 1 || leftP p a t 2 || leftP p a t 3 || leftP p a t 4) = true := by
              rcases hk4 with rfl | rfl | rfl | rfl <;> simp [hk]
            rw [this, Bool.true_and]
          rcases hany with ((h | h) | h) | h
          · exact hl 1 h (by omega)
          · exact hl 2 h (by omega)
          · exact hl 3 h (by omega)
          · exact hl 4 h (by omega)
        have HH := Lib.hid hhash
        clear hhash
        have hfin : ∀ (W' : World) (ln' fo' : Int), wr.grownBy W' (some bx) → W'.heap[bx]? = some (.cells #[.map (some bm), .map (some (B + 1)), .int .i64 ((a : Int) + 1), .int .i64 kd, .int .i64 ln', .int .i64 fo'] 72 (0, 0)) → w.grownBy W' (some bx) ∧ RdrAt W' base bx (leftP p a t) ((a : Int) + 1) kd ln' fo' := fun W' ln' fo' h1 h2 =>
          next_end r7 hbx h1 h2 g0 g1 g2 g3 g4 hMr (R6.out _ _ hW1 (by omega) (by omega)) (R6.out _ _ hW2 (by omega) (by omega)) (R6.out _ _ hW3 (by omega) (by omega)) (R6.out _ _ hW4 (by omega) (by omega)) r3 r4 (heap_ne hMr hXr (by simp)) (heap_ne hW1 hX (by simp)) (heap_ne hW2 hX (by simp)) (heap_ne hW3 hX (by simp)) (heap_ne hW4 hX (by simp)) (by omega)
        have HF := Lib.hid hfin
        clear hfin
        by_cases ht : t.f0 = 2
        · have p1 : (t.f0 == 2) = true := by rw [ht]; rfl
          by_cases hz0 : t.f2 = 0
          · have p2 : (t.f2 == 0) = true := by rw [hz0]; rfl
            have he := Lib.hid (show nextE p a t = 2 by unfold nextE; rw [HA.out, if_pos rfl, if_pos ht, if_pos hz0])
            clear ht hz0
            go_wp2
            go_ret
            exact ⟨by rw [he.out]; rfl, ⟨r7.os, r7.tape, r7.output, r7.size, fun i hi _ => r7.block i hi (by simp)⟩, fun h => by rw [he.out] at h; cases h⟩
          · have p2 : (t.f2 == 0) = false := by rw [beq_eq_false_iff_ne]; exact hz0
            have he := Lib.hid (show nextE p a t = 0 by unfold nextE; rw [HA.out, if_pos rfl, if_pos ht, if_neg hz0])
            have HT := Lib.hid ht
            clear ht hz0
            have e1 := Lib.hid (show nextLn p a t ln = if lb = true then t.f2 else ln by unfold nextLn; rw [if_pos HT.out, HH.out])
            have e2 := Lib.hid (show nextFo p a t fo = if lb = true then fo else t.f2 by unfold nextFo; rw [if_pos HT.out, HH.out])
            have HX := Lib.hid hXr
            cases lb with
            | true =>
              go_wp2
              go_ret
              have h1 := heap_setCell_same wr bx 4 _ 72 (.int .i64 t.f2) HX.out
              have h2 := heap_setCell_same _ bx 1 _ 72 (.map (some (B + 1))) h1
              have h3 := heap_setCell_same _ bx 2 _ 72 (.int .i64 ((a : Int) + 1)) h2
              obtain ⟨k1, k2⟩ := HF.out _ t.f2 fo (((g_set wr bx 4 _).trans (g_set _ bx 1 _)).trans (g_set _ bx 2 _)) h3
              refine ⟨by rw [he.out]; rfl, k1, fun _ => ?_⟩
              rw [e1.out, e2.out]
              exact k2
            | false =>
              go_wp2
              go_ret
              have h1 := heap_setCell_same wr bx 5 _ 72 (.int .i64 t.f2) HX.out
              have h2 := heap_setCell_same _ bx 1 _ 72 (.map (some (B + 1))) h1
              have h3 := heap_setCell_same _ bx 2 _ 72 (.int .i64 ((a : Int) + 1)) h2
              obtain ⟨k1, k2⟩ := HF.out _ ln t.f2 (((g_set wr bx 5 _).trans (g_set _ bx 1 _)).trans (g_set _ bx 2 _)) h3
              refine ⟨by rw [he.out]; rfl, k1, fun _ => ?_⟩
              rw [e1.out, e2.out]
              exact k2
        · have p1 : (t.f0 == 2) = false := by rw [beq_eq_false_iff_ne]; exact ht
          have he := Lib.hid (show nextE p a t = 0 by unfold nextE; rw [HA.out, if_pos rfl, if_neg ht])
          have HT := Lib.hid ht
          clear ht
          have e1 := Lib.hid (show nextLn p a t ln = ln by unfold nextLn; rw [if_neg HT.out])
          have e2 := Lib.hid (show nextFo p a t fo = fo by unfold nextFo; rw [if_neg HT.out])
          have HX := Lib.hid hXr
          go_wp2
          go_ret
          have h2 := heap_setCell_same wr bx 1 _ 72 (.map (some (B + 1))) HX.out
          have h3 := heap_setCell_same _ bx 2 _ 72 (.int .i64 ((a : Int) + 1)) h2
          obtain ⟨k1, k2⟩ := HF.out _ ln fo ((g_set wr bx 1 _).trans (g_set _ bx 2 _)) h3
          refine ⟨by rw [he.out]; rfl, k1, fun _ => ?_⟩
          rw [e1.out, e2.out]
          exact k2
    · intro k v born w3 hmem hnew hg3 hs3 hri3 hlt hen
      have hmem' := Lib.hid (Array.mem_toList_iff.2 hmem)
      have hnew' := Lib.hid (show seen.contains born = false by simpa using hnew)
      have hki : isKind k = true := by
        obtain ⟨k', e1, _, e3⟩ := hks.2.1 _ hmem'.out
        cases e1
        exact hp k e3
      have hK3 := gk hg3 hKr (by omega)
      have hX3 := gk hg3 hXr (by omega)
      have hM3 := gk hg3 hMr (by omega)
      have hT3 := gk hg3 hTr (by omega)
      have hL3 := gk hg3 r3 (by omega)
      obtain ⟨b, n, hlk', hrow, hn⟩ := lines_row hM3 (gk hg3 (r6 _ _ hW1 (by omega) (by omega)) (by omega)) (gk hg3 (r6 _ _ hW2 (by omega) (by omega)) (by omega)) (gk hg3 (r6 _ _ hW3 (by omega) (by omega)) (by omega)) (gk hg3 (r6 _ _ hW4 (by omega) (by omega)) (by omega)) hki
      have hlk := hlk' w3 hM3
      clear hlk'
      have x0 : w3.cell? ⟨bx, 0, none⟩ = some (.map (some bm)) := by rw [Lib.cell_of_heap hX3]; rfl
      have x2 : w3.cell? ⟨bx, 2, none⟩ = some (.int .i64 (a : Int)) := by rw [Lib.cell_of_heap hX3]; rfl
      have t0 : w3.cell? ⟨B, 0, none⟩ = some (.int .i64 t.f0) := by rw [Lib.cell_of_heap hT3]; rfl
      have t1 : w3.cell? ⟨B, 1, none⟩ = some (.string t.f1) := by rw [Lib.cell_of_heap hT3]; rfl
      have t2 : w3.cell? ⟨B, 2, none⟩ = some (.int .i64 t.f2) := by rw [Lib.cell_of_heap hT3]; rfl
      have t3 : w3.cell? ⟨B, 3, none⟩ = some (.int .i64 t.f3) := by rw [Lib.cell_of_heap hT3]; rfl
      have HN := Lib.hid hn
      have HS3 := Lib.hid hs3
      have HKI := Lib.hid hki
      clear hmem hnew hs3 hn hki
      by_cases hlt' : a < n
      · have q1 : decide ((a : Int) < (n : Int)) = true := decide_eq_true (by omega)
        have q2 : decide (a < n) = true := decide_eq_true hlt'
        have q3 : (0 : Int) ≤ (a : Int) := by omega
        have q4 : (a : Int) < (n : Int) := by omega
        obtain ⟨wd, hwd⟩ : ∃ wd, (wordL k)[a]? = some wd := ⟨_, List.getElem?_eq_getElem (by rw [← HN.out]; exact hlt')⟩
        have cw : w3.cell? ⟨b, a, none⟩ = some (.string wd) := by
          rw [Lib.cell_of_heap hrow]
          simp [hwd]
        have HWD := Lib.hid hwd
        clear hwd
        go_wp2_with (fail)
        go_still_tail 16, (by kernel_rfl)
        change wpList _ _ _ _ _ w3.drew
        obtain ⟨w4, hw4⟩ : ∃ W : World, w3.drew = W := ⟨_, rfl⟩
        have e4 : ∀ i : Nat, w4.heap[i]? = w3.heap[i]? := fun i => by rw [← hw4]; rfl
        have z4 : w4.heap.size = w3.heap.size := by rw [← hw4]; rfl
        have G4 : wr.grownBy w4 (some (B + 2)) := by rw [← hw4]; exact ⟨hg3.os, hg3.tape, hg3.output, hg3.size, hg3.block⟩
        rw [hw4]
        rw [← e4] at hri3 hK3 hX3 hM3 hT3 hL3 hrow
        clear hw4 x0 x2 t0 t1 t2 t3 cw hlk hen hg3
        have E4 := Lib.hid e4
        have Z4 := Lib.hid z4
        clear e4 z4
        cases hfit : fitW wd t with
        | true =>
          go_wp2_with (go_at_call 43; refine (calrule_fits.calls t.f0 t.f1 t.f2 t.f3 wd true _ (by rw [fit_f, hfit])).mono ?_; rintro e w5 ⟨rfl, hb5⟩)
          have hft : fitsP k a t = true := by
            unfold fitsP
            rw [HWD.out]
            exact hfit
          have hpk : p k = true := by
            obtain ⟨k', e1, _, e3⟩ := hks.2.1 _ hmem'.out
            cases e1
            exact e3
          have hlk : leftP p a t k = true := by
            unfold leftP
            rw [hpk, hft]
            rfl
          have hck : cameE es seen (leftP p a t) k = false := came_new hks hmem'.out hnew'.out _
          have HC := came_push hks.1.2.1 (seen := seen) hmem'.out hlk
          have hhash : hashP k a = (wd.toList == [35]) := by
            unfold hashP
            rw [HWD.out]
          have hL5 := bo hL3 hb5
          have g5 : wr.grownBy w5 (some (B + 2)) := G4.trans (below_grown hb5 _)
          rw [put_run (P := Tryd.prog) w5 70 3 4 (B + 1) clock' es' k (.bool true) u55 u3 hL5 (r4.fresh hck)]
          have hX5 := bo hX3 hb5
          have hrow5 := bo hrow hb5
          have hR5 := bo hri3 hb5
          have hK5 := bo hK3 hb5
          have HG := putEntry_grown w5 (B + 1) es' clock' k (.bool true)
          have hX6 := gk HG hX5 (by omega)
          have hrow6 := gk HG hrow5 (heap_ne hrow5 hL5 (by simp))
          have hR6 := gk HG hR5 (by omega)
          have hK6 := gk HG hK5 (by omega)
          have hL6 := put_at hL5 k (.bool true)
          have hS6 := r4.push hck
          rw [HC] at hS6
          have h3 : (putEntry w5 (B + 1) es' clock' k (.bool true)).rangeLeft bk (B + 2) < wr.rangeLeft bk (B + 2) := by
            rw [rangeLeft_eq hK6 hR6, rangeLeft_eq hKr r1]
            exact hlt
          have h4 : ∀ i o, w2.heap[i]? = some o → i ≠ B + 2 → i ≠ B + 1 → (putEntry w5 (B + 1) es' clock' k (.bool true)).heap[i]? = some o := fun i o hi n1 n2 => gk HG (gk g5 (r6 i o hi n1 n2) n1) n2
          have h5 : w.grownBy (putEntry w5 (B + 1) es' clock' k (.bool true)) none :=
            (r7.andThen g5 (fun j hj => by cases hj; left; rw [HZ.out]; omega)).andThen HG (fun j hj => by cases hj; left; rw [HZ.out]; omega)
          have h6 : ∀ z, cameE es (seen.push born) (leftP p a t) z = true → (wd.toList == [35]) = hashP z a := fun z hz => by
            rw [← hhash]
            refine hu k z hlk ?_
            unfold cameE at hz
            simp only [Bool.and_eq_true] at hz
            exact hz.1
          have HREL := Lib.hid (And.intro hR6 (And.intro (Nat.le_refl clock) (And.intro hL6 (And.intro hS6 (And.intro h6 (And.intro h4 h5))))))
          have HLT := Lib.hid h3
          obtain ⟨w6, hw6⟩ : ∃ W : World, putEntry w5 (B + 1) es' clock' k (.bool true) = W := ⟨_, rfl⟩
          rw [hw6] at HREL HLT hX6 hrow6
          rw [hw6]
          have x2 : w6.cell? ⟨bx, 2, none⟩ = some (.int .i64 (a : Int)) := by rw [Lib.cell_of_heap hX6]; rfl
          have cw : w6.cell? ⟨b, a, none⟩ = some (.string wd) := by
            rw [Lib.cell_of_heap hrow6]
            simp [HWD.out]
          clear hw6 h3 h4 h5 h6 hR6 hL6 hS6 hK6 HG hX5 hrow5 hR5 hK5 hL5 g5 hhash HC hck hlk hft hb5 hri3 hK3 hX3 hM3 hT3 hL3 hrow hX6 hrow6
          go_wp2
          go_roundw
          case rel => exact ⟨seen.push born, clock, _, _, _, rfl, HREL.out⟩
          case measure => exact HLT.out
        | false =>
          have hnf : leftP p a t k = false := by
            have : fitsP k a t = false := by
              unfold fitsP
              rw [HWD.out]
              exact hfit
            unfold leftP
            rw [this, Bool.and_false]
          have HC := came_stays hks.1.2.1 (seen := seen) hmem'.out hnf
          go_wp2_with (go_at_call 43; refine (calrule_fits.calls t.f0 t.f1 t.f2 t.f3 wd false _ (by rw [fit_f, hfit])).mono ?_; rintro e w5 ⟨rfl, hb5⟩)
          have g5 : wr.grownBy w5 (some (B + 2)) := G4.trans (below_grown hb5 _)
          have h3 : w5.rangeLeft bk (B + 2) < wr.rangeLeft bk (B + 2) := by
            rw [rangeLeft_eq (bo hK3 hb5) (bo hri3 hb5), rangeLeft_eq hKr r1]
            exact hlt
          have h4 : ∀ i o, w2.heap[i]? = some o → i ≠ B + 2 → i ≠ B + 1 → w5.heap[i]? = some o := fun i o hi n1 n2 => gk g5 (r6 i o hi n1 n2) n1
          have h5 : w.grownBy w5 none := r7.andThen g5 (fun j hj => by cases hj; left; rw [HZ.out]; omega)
          have HREL := Lib.hid (And.intro (bo hri3 hb5) (And.intro (Nat.le_refl clock) (And.intro (bo hL3 hb5) (And.intro (HC.symm ▸ r4) (And.intro (fun z hz => r5 z (by rw [← HC]; exact hz)) (And.intro h4 h5))))))
          have HLT := Lib.hid h3
          clear h3 h4 h5 g5 hb5 hri3 hK3 hX3 hM3 hT3 hL3 hrow HC
          go_roundw
          case rel => exact ⟨seen.push born, clock, lb, es', clock', rfl, HREL.out⟩
          case measure => exact HLT.out
      · have q1 : decide ((a : Int) < (n : Int)) = false := decide_eq_false (by omega)
        have q2 : decide (a < n) = false := decide_eq_false hlt'
        go_wp2_with (fail)
        go_quiet (fail)
        have hnf : leftP p a t k = false := by
          have : fitsP k a t = false := by
            unfold fitsP
            rw [List.getElem?_eq_none (by rw [← HN.out]; omega)]
          unfold leftP
          rw [this, Bool.and_false]
        have HC := came_stays hks.1.2.1 (seen := seen) hmem'.out hnf
        have h1 : (w3.drewN nq).heap[B + 2]? = some (.mapIter (some bk) clock (seen.push born) clock) := hri3
        have h2 : (w3.drewN nq).heap[B + 1]? = some (.map es' clock') := hL3
        have h3 : (w3.drewN nq).rangeLeft bk (B + 2) < wr.rangeLeft bk (B + 2) := by
          rw [rangeLeft_eq (w := w3.drewN nq) (b := bk) (r := B + 2) hK3 h1, rangeLeft_eq hKr r1]
          exact hlt
        have h4 : ∀ i o, w2.heap[i]? = some o → i ≠ B + 2 → i ≠ B + 1 → (w3.drewN nq).heap[i]? = some o := fun i o hi n1 n2 => (show w3.heap[i]? = some o from gk hg3 (r6 i o hi n1 n2) n1)
        have h5 : w.grownBy (w3.drewN nq) none := by
          have := r7.andThen hg3 (fun j hj => by cases hj; left; rw [HZ.out]; omega)
          exact ⟨this.os, this.tape, this.output, this.size, this.block⟩
        have HREL := Lib.hid (And.intro h1 (And.intro (Nat.le_refl clock) (And.intro h2 (And.intro (HC.symm ▸ r4) (And.intro (fun z hz => r5 z (by rw [← HC]; exact hz)) (And.intro h4 h5))))))
        have HLT := Lib.hid h3
        obtain ⟨w4, hw4⟩ : ∃ W : World, w3.drewN nq = W := ⟨_, rfl⟩
        rw [hw4] at HREL HLT
        rw [hw4]
        clear h1 h2 h3 h4 h5 hw4 x0 x2 t0 t1 t2 t3 hlk hen hri3 hK3 hX3 hM3 hT3 hL3 hrow HC
        go_wp2
        go_roundw
        case rel => exact ⟨seen.push born, clock, lb, es', clock', rfl, HREL.out⟩
        case measure => exact HLT.out
end Go.Proofs.YtonlbeonblpblaaDoor.All
/-! ## The Go method whole (calrule.reader). Conditions: the kinds that are open are kinds; at most one has a line just so long. -/
namespace Go.Proofs.YtonlbeonblpblaaDoor.All
open Go.RowKit Go.Proofs.YtonlbeonblpblaaDoorW.PrintWords Go.Proofs.YtonlbeonblpblaaDoorW.PrintLast Go.Proofs.YtonlbeonblpblaaDoorW.PrintMore
set_option linter.unusedVariables false
set_option linter.unusedSimpArgs false

def wholeK (p : Int → Bool) (a : Nat) : Option Int :=
  if p 1 = true ∧ (wordL 1).length = a then some 1 else if p 2 = true ∧ (wordL 2).length = a then some 2 else if p 3 = true ∧ (wordL 3).length = a then some 3 else if p 4 = true ∧ (wordL 4).length = a then some 4 else none
def wholeV (o : Option Int) (ln fo : Int) : Value := match o with | some k => .tuple #[.agg #[.int .i64 k, .int .i64 ln, .int .i64 fo], .bool true] | none => .tuple #[.agg #[.int .i64 0, .int .i64 0, .int .i64 0], .bool false]
theorem wholeK_of {p : Int → Bool} {a : Nat} {k : Int} (hu : ∀ k k', p k = true → p k' = true → (wordL k).length = a → (wordL k').length = a → k = k') (hk : p k = true) (hi : isKind k = true) (hl : (wordL k).length = a) : wholeK p a = some k := by
  unfold wholeK
  simp only [isKind, Bool.or_eq_true, beq_iff_eq] at hi
  by_cases h1 : p 1 = true ∧ (wordL 1).length = a
  · rw [if_pos h1, hu k 1 hk h1.1 hl h1.2]
  · rw [if_neg h1]
    by_cases h2 : p 2 = true ∧ (wordL 2).length = a
    · rw [if_pos h2, hu k 2 hk h2.1 hl h2.2]
    · rw [if_neg h2]
      by_cases h3 : p 3 = true ∧ (wordL 3).length = a
      · rw [if_pos h3, hu k 3 hk h3.1 hl h3.2]
      · rw [if_neg h3]
        by_cases h4 : p 4 = true ∧ (wordL 4).length = a
        · rw [if_pos h4, hu k 4 hk h4.1 hl h4.2]
        · exfalso
          rcases hi with ((rfl | rfl) | rfl) | rfl
          · exact h1 ⟨hk, hl⟩
          · exact h2 ⟨hk, hl⟩
          · exact h3 ⟨hk, hl⟩
          · exact h4 ⟨hk, hl⟩
theorem wholeK_none {p : Int → Bool} {a : Nat} (h : ∀ k, p k = true → (wordL k).length ≠ a) : wholeK p a = none := by
  unfold wholeK
  rw [if_neg (fun x => h 1 x.1 x.2), if_neg (fun x => h 2 x.1 x.2), if_neg (fun x => h 3 x.1 x.2), if_neg (fun x => h 4 x.1 x.2)]

set_option maxHeartbeats 2000000 in
set_option maxRecDepth 100000 in
theorem calrule_whole.calls (base bx a : Nat) (p : Int → Bool) (kd ln fo : Int) (w : World) (h : RdrAt w base bx p a kd ln fo) (ha : a ≤ 100) (hp : ∀ k, p k = true → isKind k = true) (hu : ∀ k k', p k = true → p k' = true → (wordL k).length = a → (wordL k').length = a → k = k') :
    Calls Tryd.prog 23 #[.pointer (some ⟨bx, 0, none⟩)] w fun e w' => e = .returned (wholeV (wholeK p a) ln fo) ∧ w.grownBy w' (some bx) := by
  have u54 := Tryd.underlying53
  have u55 := Tryd.underlying70
  have u3 := Tryd.underlying3
  obtain ⟨bm, bk, hbx, hX, ⟨b1, b2, b3, b4, g0, g1, g2, g3, g4, hM, hW1, hW2, hW3, hW4⟩, es, clock, hK, hks⟩ := h
  have c1 : w.cell? ⟨bx, 1, none⟩ = some (.map (some bk)) := by rw [Lib.cell_of_heap hX]; rfl
  have lx := heap_lt hX
  have lk := heap_lt hK
  have lm := heap_lt hM
  have l1 := heap_lt hW1
  have l2 := heap_lt hW2
  have l3 := heap_lt hW3
  have l4 := heap_lt hW4
  go_enter Tryd.func23, Tryd.ntmps23
  go_wp2_with (at_range; refine wpList_range_at _ rfl _ 70 rfl 3 4 u55 bk es clock rfl (mapAt_old hK _) ?_; intro w2 r hr hri hg hs)
  try go_frame
  obtain ⟨B, hB⟩ : ∃ B, w.heap.size = B := ⟨_, rfl⟩
  have hT : w2.heap[B]? = some (.cells #[.int .i64 0, .int .i64 0, .int .i64 0] 46 (0, 0)) := by
    rw [← hB]
    exact gn hg (mapAt_new w _)
  have hg0 : w.grownBy w2 none := (World.grownBy_alloc w _ none).trans hg
  have hrz : r = B + 1 := by rw [hr, mapAt_size, hB]
  rw [hB]
  rw [hB] at lx lk lm l1 l2 l3 l4
  have HZ := Lib.hid hB
  clear hs hg hr hB
  subst hrz
  clear c1
  replace hX := gn hg0 hX
  replace hM := gn hg0 hM
  replace hK := gn hg0 hK
  replace hW1 := gn hg0 hW1
  replace hW2 := gn hg0 hW2
  replace hW3 := gn hg0 hW3
  replace hW4 := gn hg0 hW4
  have HG0 := Lib.hid hg0
  clear hg0
  go_loopw [4] (fun v wr => ∃ seen c0, wr.heap[B + 1]? = some (.mapIter (some bk) clock seen c0) ∧ clock ≤ c0 ∧
      (∀ e ∈ es.toList, seen.contains e.born = true → ∀ k, e.key = .int .i64 k → (wordL k).length ≠ a) ∧ (∀ i o, w2.heap[i]? = some o → i ≠ B + 1 → wr.heap[i]? = some o) ∧ w.grownBy wr none) (fun _ wr => wr.rangeLeft bk (B + 1))
  case atStart => exact ⟨#[], clock, hri, Nat.le_refl _, (fun e he hs => by simp at hs), fun i o h _ => h, HG0.out⟩
  case round =>
    obtain ⟨seen, c0, r1, r2, r3, r6, r7⟩ := hrel
    have hKr := r6 _ _ hK (by omega)
    have hXr := r6 _ _ hX (by omega)
    have hMr := r6 _ _ hM (by omega)
    have hTr := r6 _ _ hT (by omega)
    have R3 := Lib.hid r3
    have R6 := Lib.hid r6
    clear r3 r6
    go_wp2_with (at_next; refine wpList_next_at _ rfl _ rfl (B + 1) bk clock c0 seen es clock rfl r1 hKr hks.1.1 r2 hks.1.2.1 (fun x hx => by obtain ⟨k, hk, _⟩ := hks.2.1 x hx; exact ⟨k, hk⟩) ?_ ?_)
    · intro hall
      have hnone := Lib.hid (wholeK_none (p := p) (a := a) (fun k hk => by
        obtain ⟨e, he, hek⟩ := hks.2.2 k hk
        refine R3.out e he ?_ k hek
        have := hall e (Array.mem_toList_iff.1 he)
        simpa using this))
      clear hall
      have y0 : wr.cell? ⟨B, 0, none⟩ = some (.int .i64 0) := by rw [Lib.cell_of_heap hTr]; rfl
      have y1 : wr.cell? ⟨B, 1, none⟩ = some (.int .i64 0) := by rw [Lib.cell_of_heap hTr]; rfl
      have y2 : wr.cell? ⟨B, 2, none⟩ = some (.int .i64 0) := by rw [Lib.cell_of_heap hTr]; rfl
      have f0 : wr.frozen? ⟨B, 0, none⟩ = false := Lib.frozen_of_heap hTr 0
      have f1 : wr.frozen? ⟨B, 1, none⟩ = false := Lib.frozen_of_heap hTr 1
      have f2 : wr.frozen? ⟨B, 2, none⟩ = false := Lib.frozen_of_heap hTr 2
      have HT := Lib.hid hTr
      have HK := Lib.hid r7
      clear r7 hTr
      go_wp2
      have h1 := heap_setCell_same wr B 0 _ 46 (.int .i64 0) HT.out
      have h2 := heap_setCell_same _ B 1 _ 46 (.int .i64 0) h1
      have h3 := heap_setCell_same _ B 2 _ 46 (.int .i64 0) h2
      have hG : w.grownBy (((wr.setCell ⟨B, 0, none⟩ (.int .i64 0)).setCell ⟨B, 1, none⟩ (.int .i64 0)).setCell ⟨B, 2, none⟩ (.int .i64 0)) none :=
        HK.out.andThen (((g_set wr B 0 (.int .i64 0)).trans (g_set _ B 1 (.int .i64 0))).trans (g_set _ B 2 (.int .i64 0))) (fun j hj => by cases hj; left; rw [HZ.out]; exact Nat.le_refl _)
      obtain ⟨W', hW'⟩ : ∃ W : World, ((wr.setCell ⟨B, 0, none⟩ (.int .i64 0)).setCell ⟨B, 1, none⟩ (.int .i64 0)).setCell ⟨B, 2, none⟩ (.int .i64 0) = W := ⟨_, rfl⟩
      rw [hW'] at h3 hG
      rw [hW']
      have z0 : W'.cell? ⟨B, 0, none⟩ = some (.int .i64 0) := by rw [Lib.cell_of_heap h3]; rfl
      have z1 : W'.cell? ⟨B, 1, none⟩ = some (.int .i64 0) := by rw [Lib.cell_of_heap h3]; rfl
      have z2 : W'.cell? ⟨B, 2, none⟩ = some (.int .i64 0) := by rw [Lib.cell_of_heap h3]; rfl
      refine bodyPost_ret (v := .tuple #[.agg #[.int .i64 0, .int .i64 0, .int .i64 0], .bool false]) (by simp [results, Tryd.results23, go_sem, z0, z1, z2]) rfl ⟨by rw [hnone.out]; rfl, hG.but _⟩
    · intro k v born w3 hmem hnew hg3 hs3 hri3 hlt hen
      have hmem' := Lib.hid (Array.mem_toList_iff.2 hmem)
      have hpk : p k = true := by
        obtain ⟨k', e1, _, e3⟩ := hks.2.1 _ hmem'.out
        cases e1
        exact e3
      have hki := hp k hpk
      have hX3 := gk hg3 hXr (by omega)
      have hM3 := gk hg3 hMr (by omega)
      have hT3 := gk hg3 hTr (by omega)
      obtain ⟨b, n, hlk', hrow, hn⟩ := lines_row hM3 (gk hg3 (R6.out _ _ hW1 (by omega)) (by omega)) (gk hg3 (R6.out _ _ hW2 (by omega)) (by omega)) (gk hg3 (R6.out _ _ hW3 (by omega)) (by omega)) (gk hg3 (R6.out _ _ hW4 (by omega)) (by omega)) hki
      have hlk : ∀ m, (Instr.lookup 53 (.map (some bm)) (.int .i64 k) false).run Tryd.prog (w3.drewN m) = .ok (.slice (some ⟨b, 0, none⟩) n n) (w3.drewN m) := fun m => hlk' _ hM3
      clear hlk'
      have x0 : w3.cell? ⟨bx, 0, none⟩ = some (.map (some bm)) := by rw [Lib.cell_of_heap hX3]; rfl
      have x2 : w3.cell? ⟨bx, 2, none⟩ = some (.int .i64 (a : Int)) := by rw [Lib.cell_of_heap hX3]; rfl
      have HN := Lib.hid hn
      have HPK := Lib.hid hpk
      have HKI := Lib.hid hki
      clear hmem hnew hs3 hn hki hpk
      by_cases hEq : a = n
      · have q1 : ((a : Int) == (n : Int)) = true := by rw [hEq]; exact beq_self_eq_true _
        have q2 : (a == n) = true := by rw [hEq]; exact beq_self_eq_true _
        have HE := Lib.hid hEq
        clear hEq
        go_wp2
        go_quiet (fail)
        have hsome := Lib.hid (wholeK_of hu HPK.out HKI.out (by rw [← HN.out, ← HE.out]))
        have hX4 : (w3.drewN nq).heap[bx]? = _ := hX3
        have hT4 : (w3.drewN nq).heap[B]? = _ := hT3
        have g4 : w.grownBy (w3.drewN nq) none := by
          have := r7.andThen hg3 (fun j hj => by cases hj; left; rw [HZ.out]; omega)
          exact ⟨this.os, this.tape, this.output, this.size, this.block⟩
        obtain ⟨w4, hw4⟩ : ∃ W : World, w3.drewN nq = W := ⟨_, rfl⟩
        rw [hw4] at hX4 hT4 g4
        rw [hw4]
        clear hw4 hlk x0 x2 hen hri3 hX3 hM3 hT3 hrow hg3
        have f3 : w4.frozen? ⟨bx, 3, none⟩ = false := Lib.frozen_of_heap hX4 3
        have x3 : w4.cell? ⟨bx, 3, none⟩ = some (.int .i64 kd) := by rw [Lib.cell_of_heap hX4]; rfl
        have x4 : w4.cell? ⟨bx, 4, none⟩ = some (.int .i64 ln) := by rw [Lib.cell_of_heap hX4]; rfl
        have x5 : w4.cell? ⟨bx, 5, none⟩ = some (.int .i64 fo) := by rw [Lib.cell_of_heap hX4]; rfl
        have y0 : w4.cell? ⟨B, 0, none⟩ = some (.int .i64 0) := by rw [Lib.cell_of_heap hT4]; rfl
        have y1 : w4.cell? ⟨B, 1, none⟩ = some (.int .i64 0) := by rw [Lib.cell_of_heap hT4]; rfl
        have y2 : w4.cell? ⟨B, 2, none⟩ = some (.int .i64 0) := by rw [Lib.cell_of_heap hT4]; rfl
        have f0 : w4.frozen? ⟨B, 0, none⟩ = false := Lib.frozen_of_heap hT4 0
        have f1 : w4.frozen? ⟨B, 1, none⟩ = false := Lib.frozen_of_heap hT4 1
        have f2 : w4.frozen? ⟨B, 2, none⟩ = false := Lib.frozen_of_heap hT4 2
        have hne : bx ≠ B := by omega
        have hne' : B ≠ bx := by omega
        go_wp2
        have h0 := heap_setCell_other w4 ⟨bx, 3, none⟩ B (.int .i64 k) hne'
        rw [hT4] at h0
        have h1 := heap_setCell_same _ B 0 _ 46 (.int .i64 k) h0
        have h2 := heap_setCell_same _ B 1 _ 46 (.int .i64 ln) h1
        have h3 := heap_setCell_same _ B 2 _ 46 (.int .i64 fo) h2
        have hG : w.grownBy ((((w4.setCell ⟨bx, 3, none⟩ (.int .i64 k)).setCell ⟨B, 0, none⟩ (.int .i64 k)).setCell ⟨B, 1, none⟩ (.int .i64 ln)).setCell ⟨B, 2, none⟩ (.int .i64 fo)) (some bx) :=
          ((g4.but (some bx)).trans (g_set w4 bx 3 (.int .i64 k))).andThen (((g_set _ B 0 (.int .i64 k)).trans (g_set _ B 1 (.int .i64 ln))).trans (g_set _ B 2 (.int .i64 fo))) (fun j hj => by cases hj; left; rw [HZ.out]; exact Nat.le_refl _)
        obtain ⟨W', hW'⟩ : ∃ W : World, (((w4.setCell ⟨bx, 3, none⟩ (.int .i64 k)).setCell ⟨B, 0, none⟩ (.int .i64 k)).setCell ⟨B, 1, none⟩ (.int .i64 ln)).setCell ⟨B, 2, none⟩ (.int .i64 fo) = W := ⟨_, rfl⟩
        rw [hW'] at h3 hG
        rw [hW']
        have z0 : W'.cell? ⟨B, 0, none⟩ = some (.int .i64 k) := by rw [Lib.cell_of_heap h3]; rfl
        have z1 : W'.cell? ⟨B, 1, none⟩ = some (.int .i64 ln) := by rw [Lib.cell_of_heap h3]; rfl
        have z2 : W'.cell? ⟨B, 2, none⟩ = some (.int .i64 fo) := by rw [Lib.cell_of_heap h3]; rfl
        refine bodyPost_ret (v := .tuple #[.agg #[.int .i64 k, .int .i64 ln, .int .i64 fo], .bool true]) (by simp [results, Tryd.results23, go_sem, z0, z1, z2]) rfl ⟨by rw [hsome.out]; rfl, hG⟩
      · have q1 : ((a : Int) == (n : Int)) = false := by rw [beq_eq_false_iff_ne]; omega
        have q2 : (a == n) = false := by rw [beq_eq_false_iff_ne]; omega
        have hNE := Lib.hid (show (wordL k).length ≠ a by rw [← HN.out]; exact Ne.symm hEq)
        clear hEq
        go_wp2
        go_quiet (fail)
        have h1 : (w3.drewN nq).heap[B + 1]? = some (.mapIter (some bk) clock (seen.push born) clock) := hri3
        have hK4 : (w3.drewN nq).heap[bk]? = some (.map es clock) := (show w3.heap[bk]? = some (.map es clock) from gk hg3 hKr (by omega))
        have h3 : (w3.drewN nq).rangeLeft bk (B + 1) < wr.rangeLeft bk (B + 1) := by
          rw [rangeLeft_eq (w := w3.drewN nq) (b := bk) (r := B + 1) hK4 h1, rangeLeft_eq hKr r1]
          exact hlt
        have h4 : ∀ i o, w2.heap[i]? = some o → i ≠ B + 1 → (w3.drewN nq).heap[i]? = some o := fun i o hi n1 => (show w3.heap[i]? = some o from gk hg3 (R6.out i o hi n1) n1)
        have h5 : w.grownBy (w3.drewN nq) none := by
          have := r7.andThen hg3 (fun j hj => by cases hj; left; rw [HZ.out]; omega)
          exact ⟨this.os, this.tape, this.output, this.size, this.block⟩
        have h6 : ∀ e ∈ es.toList, (seen.push born).contains e.born = true → ∀ k, e.key = .int .i64 k → (wordL k).length ≠ a := fun e he hs z hz => by
          rw [contains_push, Bool.or_eq_true, beq_iff_eq] at hs
          rcases hs with hs | hs
          · exact R3.out e he hs z hz
          · have e1 := born_inj hks.1.2.1 he hmem'.out hs
            rw [e1] at hz
            cases hz
            exact hNE.out
        have HREL := Lib.hid (And.intro h1 (And.intro (Nat.le_refl clock) (And.intro h6 (And.intro h4 h5))))
        have HLT := Lib.hid h3
        obtain ⟨w4, hw4⟩ : ∃ W : World, w3.drewN nq = W := ⟨_, rfl⟩
        rw [hw4] at HREL HLT
        rw [hw4]
        clear h1 h3 h4 h5 h6 hw4 x0 x2 hlk hen hri3 hK4 hX3 hM3 hT3 hrow hg3
        go_wp2
        go_roundw
        case rel => exact ⟨seen.push born, clock, HREL.out⟩
        case measure => exact HLT.out
end Go.Proofs.YtonlbeonblpblaaDoor.All
/-! ## What calrule.Parse computes, in plain Lean: 'parseC', an automaton over tokens whose states are the kinds that are open and the place in the line. No condition. -/
namespace Go.Proofs.YtonlbeonblpblaaDoor.All
open Go.RowKit Go.Proofs.YtonlbeonblpblaaDoorW.PrintWords Go.Proofs.YtonlbeonblpblaaDoorW.PrintLast Go.Proofs.YtonlbeonblpblaaDoorW.PrintMore
set_option linter.unusedVariables false
set_option linter.unusedSimpArgs false

def pOf (c : Int) (k : Int) : Bool := if c = 0 then isKind k else if c = 5 then k == 1 || k == 2 else k == c
def wE : ByteArray := ⟨#[101, 97, 99, 104]⟩
def wQ : ByteArray := ⟨#[113, 117, 105, 101, 116]⟩
def wN : ByteArray := ⟨#[110, 101, 118, 101, 114]⟩
def wW : ByteArray := ⟨#[119, 114, 105, 116, 101]⟩
def wH : ByteArray := ⟨#[35]⟩
def wX : ByteArray := ⟨#[33]⟩
def nextC (c : Int) (t : S69) : Int := if c = 0 then if fitW wE t = true then 5 else if fitW wQ t = true then 3 else 4 else if c = 5 then if fitW wW t = true then 1 else 2 else c
def vC (c : Int) (a : Nat) : Prop := (c = 0 ∧ a = 0) ∨ (c = 5 ∧ a = 1) ∨ ((c = 1 ∨ c = 2 ∨ c = 3 ∨ c = 4) ∧ 1 ≤ a ∧ a ≤ (wordL c).length)
theorem tl (w : ByteArray) : w.toList = w.data.toList := by
  rw [ByteArray.toList_eq]
theorem fitW_word {w : ByteArray} (h1 : w.toList ≠ [35]) (h2 : w.toList ≠ [33]) (t : S69) : fitW w t = true ↔ t.f0 = 1 ∧ t.f1.toList = w.toList := by
  unfold fitW
  rw [if_neg h1, if_neg h2]
  by_cases h : t.f0 = 1
  · rw [if_pos h]; simp [h]
  · rw [if_neg h]; simp [h]
theorem fitW_time {w : ByteArray} (h : w.toList = [35] ∨ w.toList = [33]) (t : S69) : fitW w t = true ↔ t.f0 = 2 := by
  unfold fitW
  by_cases h1 : w.toList = [35]
  · rw [if_pos h1]; simp
  · rw [if_neg h1, if_pos (h.resolve_left h1)]; simp
theorem fE (t : S69) : fitW wE t = true ↔ t.f0 = 1 ∧ t.f1.toList = [101, 97, 99, 104] := by
  rw [fitW_word (by rw [tl]; decide) (by rw [tl]; decide), tl wE]; rfl
theorem fQ (t : S69) : fitW wQ t = true ↔ t.f0 = 1 ∧ t.f1.toList = [113, 117, 105, 101, 116] := by
  rw [fitW_word (by rw [tl]; decide) (by rw [tl]; decide), tl wQ]; rfl
theorem fN (t : S69) : fitW wN t = true ↔ t.f0 = 1 ∧ t.f1.toList = [110, 101, 118, 101, 114] := by
  rw [fitW_word (by rw [tl]; decide) (by rw [tl]; decide), tl wN]; rfl
theorem fWr (t : S69) : fitW wW t = true ↔ t.f0 = 1 ∧ t.f1.toList = [119, 114, 105, 116, 101] := by
  rw [fitW_word (by rw [tl]; decide) (by rw [tl]; decide), tl wW]; rfl
theorem fH (t : S69) : fitW wH t = true ↔ t.f0 = 2 := fitW_time (.inl (by rw [tl]; rfl)) t
theorem fX (t : S69) : fitW wX t = true ↔ t.f0 = 2 := fitW_time (.inr (by rw [tl]; rfl)) t
theorem fits10 (t : S69) : fitsP 1 0 t = fitW wE t := rfl
theorem fits20 (t : S69) : fitsP 2 0 t = fitW wE t := rfl
theorem fits30 (t : S69) : fitsP 3 0 t = fitW wQ t := rfl
theorem fits40 (t : S69) : fitsP 4 0 t = fitW wN t := rfl
theorem fits11 (t : S69) : fitsP 1 1 t = fitW wW t := rfl
theorem fits21 (t : S69) : fitsP 2 1 t = fitW wH t := rfl
theorem pOf0 : pOf 0 = isKind := by funext k; rfl
theorem pOf5 : pOf 5 = fun k => k == 1 || k == 2 := by funext k; rfl
theorem pOfS {c : Int} (h : c = 1 ∨ c = 2 ∨ c = 3 ∨ c = 4) : pOf c = fun k => k == c := by
  funext k
  unfold pOf
  rw [if_neg (by omega), if_neg (by omega)]
theorem pOf_kind {c : Int} {a : Nat} (hv : vC c a) {k : Int} (h : pOf c k = true) : isKind k = true := by
  rcases hv with ⟨rfl, _⟩ | ⟨rfl, _⟩ | ⟨hc, _⟩
  · exact h
  · rw [pOf5] at h
    simp only [Bool.or_eq_true, beq_iff_eq] at h
    rcases h with rfl | rfl <;> rfl
  · rw [pOfS hc] at h
    obtain rfl := beq_iff_eq.1 h
    rcases hc with rfl | rfl | rfl | rfl <;> rfl
theorem len_le (c : Int) : (wordL c).length ≤ 4 := by
  unfold wordL
  repeat' split
  all_goals simp
theorem vC_le {c : Int} {a : Nat} (hv : vC c a) : a ≤ 4 := by
  rcases hv with ⟨_, rfl⟩ | ⟨_, rfl⟩ | ⟨_, _, h⟩
  · omega
  · omega
  · have := len_le c; omega
theorem left_kind {c : Int} {a : Nat} (hv : vC c a) {t : S69} {k : Int} (h : leftP (pOf c) a t k = true) : k = 1 ∨ k = 2 ∨ k = 3 ∨ k = 4 := by
  have := pOf_kind hv (left_le h).1
  simp only [isKind, Bool.or_eq_true, beq_iff_eq] at this
  omega
theorem hash_word {k : Int} {a : Nat} {t : S69} (h : fitsP k a t = true) (ht : t.f0 ≠ 2) : hashP k a = false := by
  unfold fitsP at h
  unfold hashP
  cases hw : (wordL k)[a]? with
  | none => rfl
  | some w =>
    rw [hw] at h
    simp only at h ⊢
    rw [beq_eq_false_iff_ne]
    intro e
    exact ht ((fitW_time (.inl e) t).1 h)
theorem fits_time0 {k : Int} {t : S69} (hk : k = 1 ∨ k = 2 ∨ k = 3 ∨ k = 4) (ht : t.f0 = 2) : fitsP k 0 t = false := by
  cases h : fitsP k 0 t with
  | false => rfl
  | true =>
    rcases hk with rfl | rfl | rfl | rfl
    · rw [fits10, fE] at h; omega
    · rw [fits20, fE] at h; omega
    · rw [fits30, fQ] at h; omega
    · rw [fits40, fN] at h; omega
theorem next_hu {c : Int} {a : Nat} (hv : vC c a) (t : S69) : ∀ k k', leftP (pOf c) a t k = true → leftP (pOf c) a t k' = true → hashP k a = hashP k' a := fun k k' h h' => by
  have hk := left_kind hv h
  have hk' := left_kind hv h'
  obtain ⟨h1, h2⟩ := left_le h
  obtain ⟨h1', h2'⟩ := left_le h'
  by_cases ht : t.f0 = 2
  · rcases hv with ⟨rfl, rfl⟩ | ⟨rfl, rfl⟩ | ⟨hc, _⟩
    · rw [fits_time0 hk ht] at h2
      cases h2
    · rw [pOf5] at h1 h1'
      simp only [Bool.or_eq_true, beq_iff_eq] at h1 h1'
      have n1 : k ≠ 1 := by
        rintro rfl
        rw [fits11, fWr] at h2
        omega
      have n1' : k' ≠ 1 := by
        rintro rfl
        rw [fits11, fWr] at h2'
        omega
      rw [h1.resolve_left n1, h1'.resolve_left n1']
    · rw [pOfS hc] at h1 h1'
      rw [beq_iff_eq.1 h1, beq_iff_eq.1 h1']
  · rw [hash_word h2 ht, hash_word h2' ht]
theorem whole_hu {c : Int} {a : Nat} (hv : vC c a) : ∀ k k', pOf c k = true → pOf c k' = true → (wordL k).length = a → (wordL k').length = a → k = k' := fun k k' h h' hl hl' => by
  rcases hv with ⟨rfl, rfl⟩ | ⟨rfl, rfl⟩ | ⟨hc, _⟩
  · rw [pOf0] at h
    simp only [isKind, Bool.or_eq_true, beq_iff_eq] at h
    rcases h with ((rfl | rfl) | rfl) | rfl <;> cases hl
  · rw [pOf5] at h
    simp only [Bool.or_eq_true, beq_iff_eq] at h
    rcases h with rfl | rfl <;> cases hl
  · rw [pOfS hc] at h h'
    rw [beq_iff_eq.1 h, beq_iff_eq.1 h']
theorem nextE_any {p : Int → Bool} {a : Nat} {t : S69} (h : nextE p a t = 0) : anyP (leftP p a t) = true := by
  unfold nextE at h
  by_cases h1 : anyP (leftP p a t) = true
  · exact h1
  · rw [if_neg h1] at h; cases h
theorem next_ok {c : Int} {a : Nat} (hv : vC c a) {t : S69} (he : nextE (pOf c) a t = 0) : leftP (pOf c) a t = pOf (nextC c t) ∧ vC (nextC c t) (a + 1) := by
  have hany := nextE_any he
  simp only [anyP, Bool.or_eq_true] at hany
  rcases hv with ⟨rfl, rfl⟩ | ⟨rfl, rfl⟩ | ⟨hc, h1, h2⟩
  · have e1 : ∀ k, (k = 1 ∨ k = 2 ∨ k = 3 ∨ k = 4) → leftP (pOf 0) 0 t k = fitsP k 0 t := fun k hk => by
      unfold leftP
      rw [pOf0]
      have : isKind k = true := by rcases hk with rfl | rfl | rfl | rfl <;> rfl
      rw [this, Bool.true_and]
    have e2 : ∀ k, ¬ (k = 1 ∨ k = 2 ∨ k = 3 ∨ k = 4) → leftP (pOf 0) 0 t k = false := fun k hk => by
      unfold leftP
      rw [pOf0]
      have : isKind k = false := by
        cases h : isKind k with
        | false => rfl
        | true =>
          simp only [isKind, Bool.or_eq_true, beq_iff_eq] at h
          omega
      rw [this, Bool.false_and]
    rw [e1 1 (by omega), e1 2 (by omega), e1 3 (by omega), e1 4 (by omega), fits10, fits20, fits30, fits40] at hany
    have s1 : fitW wE t = true → fitW wQ t = false ∧ fitW wN t = false := fun h => by
      rw [fE] at h
      constructor
      · cases h' : fitW wQ t with
        | false => rfl
        | true => rw [fQ, h.2] at h'; cases h'.2
      · cases h' : fitW wN t with
        | false => rfl
        | true => rw [fN, h.2] at h'; cases h'.2
    have s2 : fitW wQ t = true → fitW wN t = false := fun h => by
      rw [fQ] at h
      cases h' : fitW wN t with
      | false => rfl
      | true => rw [fN, h.2] at h'; cases h'.2
    unfold nextC
    rw [if_pos rfl]
    by_cases g1 : fitW wE t = true
    · obtain ⟨g2, g3⟩ := s1 g1
      rw [if_pos g1]
      refine ⟨?_, .inr (.inl ⟨rfl, rfl⟩)⟩
      funext k
      rw [pOf5]
      by_cases hk : k = 1 ∨ k = 2 ∨ k = 3 ∨ k = 4
      · rw [e1 k hk]
        rcases hk with rfl | rfl | rfl | rfl
        · rw [fits10, g1]; rfl
        · rw [fits20, g1]; rfl
        · rw [fits30, g2]; rfl
        · rw [fits40, g3]; rfl
      · rw [e2 k hk]
        have n1 : k ≠ 1 := by omega
        have n2 : k ≠ 2 := by omega
        simp [n1, n2]
    · rw [if_neg g1]
      have g1' : fitW wE t = false := by simpa using g1
      by_cases g2 : fitW wQ t = true
      · have g3 := s2 g2
        rw [if_pos g2]
        refine ⟨?_, .inr (.inr ⟨by omega, Nat.le_refl _, by decide⟩)⟩
        funext k
        rw [pOfS (c := 3) (by omega)]
        by_cases hk : k = 1 ∨ k = 2 ∨ k = 3 ∨ k = 4
        · rw [e1 k hk]
          rcases hk with rfl | rfl | rfl | rfl
          · rw [fits10, g1']; rfl
          · rw [fits20, g1']; rfl
          · rw [fits30, g2]; rfl
          · rw [fits40, g3]; rfl
        · rw [e2 k hk]
          have n3 : k ≠ 3 := by omega
          simp [n3]
      · have g2' : fitW wQ t = false := by simpa using g2
        have g3 : fitW wN t = true := by
          rcases hany with ((h | h) | h) | h
          · exact absurd h g1
          · exact absurd h g1
          · exact absurd h g2
          · exact h
        rw [if_neg g2]
        refine ⟨?_, .inr (.inr ⟨by omega, Nat.le_refl _, by decide⟩)⟩
        funext k
        rw [pOfS (c := 4) (by omega)]
        by_cases hk : k = 1 ∨ k = 2 ∨ k = 3 ∨ k = 4
        · rw [e1 k hk]
          rcases hk with rfl | rfl | rfl | rfl
          · rw [fits10, g1']; rfl
          · rw [fits20, g1']; rfl
          · rw [fits30, g2']; rfl
          · rw [fits40, g3]; rfl
        · rw [e2 k hk]
          have n3 : k ≠ 4 := by omega
          simp [n3]
  · have e1 : leftP (pOf 5) 1 t 1 = fitW wW t := by unfold leftP; rw [pOf5, fits11]; rfl
    have e2 : leftP (pOf 5) 1 t 2 = fitW wH t := by unfold leftP; rw [pOf5, fits21]; rfl
    have e3 : ∀ k, k ≠ 1 → k ≠ 2 → leftP (pOf 5) 1 t k = false := fun k n1 n2 => by
      unfold leftP
      rw [pOf5]
      simp [n1, n2]
    rw [e1, e2, e3 3 (by omega) (by omega), e3 4 (by omega) (by omega)] at hany
    have s1 : fitW wW t = true → fitW wH t = false := fun h => by
      rw [fWr] at h
      cases h' : fitW wH t with
      | false => rfl
      | true => rw [fH] at h'; omega
    unfold nextC
    rw [if_neg (by omega), if_pos rfl]
    by_cases g1 : fitW wW t = true
    · have g2 := s1 g1
      rw [if_pos g1]
      refine ⟨?_, .inr (.inr ⟨by omega, by omega, by decide⟩)⟩
      funext k
      rw [pOfS (c := 1) (by omega)]
      by_cases n1 : k = 1
      · subst n1; rw [e1, g1]; rfl
      · by_cases n2 : k = 2
        · subst n2; rw [e2, g2]; rfl
        · rw [e3 k n1 n2]; simp [n1]
    · have g1' : fitW wW t = false := by simpa using g1
      have g2 : fitW wH t = true := by
        rcases hany with ((h | h) | h) | h
        · exact absurd h g1
        · exact h
        · cases h
        · cases h
      rw [if_neg g1]
      refine ⟨?_, .inr (.inr ⟨by omega, by omega, by decide⟩)⟩
      funext k
      rw [pOfS (c := 2) (by omega)]
      by_cases n1 : k = 1
      · subst n1; rw [e1, g1']; rfl
      · by_cases n2 : k = 2
        · subst n2; rw [e2, g2]; rfl
        · rw [e3 k n1 n2]; simp [n2]
  · have e0 : nextC c t = c := by
      unfold nextC
      rw [if_neg (by omega), if_neg (by omega)]
    rw [e0]
    have e1 : ∀ k, leftP (pOf c) a t k = ((k == c) && fitsP c a t) := fun k => by
      unfold leftP
      rw [pOfS hc]
      by_cases hk : k = c
      · rw [hk]
      · show ((k == c) && fitsP k a t) = ((k == c) && fitsP c a t)
        rw [beq_eq_false_iff_ne.2 hk]; rfl
    have hf : fitsP c a t = true := by
      rw [e1 1, e1 2, e1 3, e1 4] at hany
      simp only [Bool.and_eq_true] at hany
      rcases hany with ((h | h) | h) | h <;> exact h.2
    refine ⟨?_, .inr (.inr ⟨hc, by omega, ?_⟩)⟩
    · funext k
      rw [e1 k, hf, pOfS hc, Bool.and_true]
    · unfold fitsP at hf
      cases hw : (wordL c)[a]? with
      | none => rw [hw] at hf; cases hf
      | some w => exact (List.getElem?_eq_some_iff.1 hw).1

/-- The tokens, one by one. -/
def parseC : List S69 → Int → Nat → Int → Int → List S46 → List S46 × Int × Int
  | [], _, _, _, _, out => (out, 0, 0)
  | t :: r, c, a, ln, fo, out =>
    if t.f0 ≠ 3 ∧ t.f0 ≠ 0 then
      if a = 0 ∧ 16 ≤ out.length then ([], t.f3, 6)
      else if nextE (pOf c) a t = 0 then parseC r (nextC c t) (a + 1) (nextLn (pOf c) a t ln) (nextFo (pOf c) a t fo) out
      else ([], t.f3, nextE (pOf c) a t)
    else if a = 0 then parseC r c a ln fo out
    else match wholeK (pOf c) a with
      | none => ([], t.f3, 3)
      | some k => parseC r 0 0 0 0 (out ++ [⟨k, ln, fo⟩])
def calrule_Parse.f (k : Nat) (a0 : ByteArray) : Option (List S46 × Int × Int) := (caltok_Lex.f k a0).bind fun x => if x.2.2 = 0 then some (parseC x.1 0 0 0 0 []) else some ([], x.2.1, x.2.2)
theorem calrule_Parse.mono : ∀ a0 k, LeO (calrule_Parse.f k a0) (calrule_Parse.f (k + 1) a0) := by
  intro a0 k
  unfold calrule_Parse.f
  refine LeO.bind (caltok_Lex.mono _ _) (fun _ => LeO.refl _)
end Go.Proofs.YtonlbeonblpblaaDoor.All
/-! ## The Go function calrule.Parse. Condition: the package's table of units holds m, h and d. -/
namespace Go.Proofs.YtonlbeonblpblaaDoor.All
open Go.RowKit Go.Proofs.YtonlbeonblpblaaDoorW.PrintWords Go.Proofs.YtonlbeonblpblaaDoorW.PrintLast Go.Proofs.YtonlbeonblpblaaDoorW.PrintMore
set_option linter.unusedVariables false
set_option linter.unusedSimpArgs false

theorem RdrAt.move {w w' : World} {base bx : Nat} {p : Int → Bool} {a kd ln fo : Int} (h : RdrAt w base bx p a kd ln fo) (hg : w.grownBy w' none) : RdrAt w' base bx p a kd ln fo := by
  obtain ⟨bm, bk, hbx, hX, ⟨b1, b2, b3, b4, g0, g1, g2, g3, g4, hM, hW1, hW2, hW3, hW4⟩, es, clock, hK, hks⟩ := h
  exact ⟨bm, bk, hbx, gn hg hX, ⟨b1, b2, b3, b4, g0, g1, g2, g3, g4, gn hg hM, gn hg hW1, gn hg hW2, gn hg hW3, gn hg hW4⟩, es, clock, gn hg hK, hks⟩
theorem RdrAt.lower {w : World} {base base' bx : Nat} {p : Int → Bool} {a kd ln fo : Int} (h : RdrAt w base bx p a kd ln fo) (hb : base' ≤ base) : RdrAt w base' bx p a kd ln fo := by
  obtain ⟨bm, bk, hbx, hX, ⟨b1, b2, b3, b4, g0, g1, g2, g3, g4, hM, hW1, hW2, hW3, hW4⟩, es, clock, hK, hks⟩ := h
  exact ⟨bm, bk, Nat.le_trans hb hbx, hX, ⟨b1, b2, b3, b4, Nat.le_trans hb g0, Nat.le_trans hb g1, Nat.le_trans hb g2, Nat.le_trans hb g3, Nat.le_trans hb g4, hM, hW1, hW2, hW3, hW4⟩, es, clock, hK, hks⟩
set_option maxHeartbeats 4000000 in
set_option maxRecDepth 100000 in
theorem calrule_Parse.calls (k : Nat) (a0 : ByteArray) (r1 : List S46) (r2 r3 : Int) (w : World) (hU : Units w) (h : calrule_Parse.f k a0 = some (r1, r2, r3)) :
    Calls Tryd.prog 7 #[.string a0] w fun e w' => ∃ v0_ : Value, e = .returned (.tuple #[v0_, .int .i64 r2, .int .i64 r3]) ∧ Kd.R k46 46 w' w.heap.size (fun _ => True) v0_ r1 ∧ Below w.heap.size w w' := by
  unfold calrule_Parse.f at h
  obtain ⟨⟨l, q2, q3⟩, hL, h⟩ := Option.bind_eq_some_iff.mp h
  simp only at h
  have HL := Lib.hid hL
  clear hL
  by_cases hq : q3 = 0
  · rw [if_pos hq] at h
    have hb0 : (q3 == 0) = true := beq_iff_eq.2 hq
    have hb1 : (q3 != 0) = false := bne_eq_false_iff_eq.2 hq
    have H := Lib.hid (Option.some.inj h)
    clear h hq
    go_enter Tryd.func7, Tryd.ntmps7
    go_wp2_with (first | (go_at_call 20; refine (caltok_Lex.calls k a0 l q2 q3 _ hU HL.out).mono ?_; rintro e w1 ⟨v0, rfl, ht, hb1⟩; obtain ⟨A, cA, rfl⟩ := Kd.R_slice ht) | (go_at_call 21; refine (calrule_begin.calls _).mono ?_; rintro e w2 ⟨bx, rfl, hr, hb2⟩))
    have hB2 : Below w.heap.size w w2 := hb1.trans (hb2.mono hb1.size)
    have hT2 := Kd.R_below ht hb2
    have hR2 : RdrAt w2 w.heap.size bx (pOf 0) (0 : Nat) 0 0 0 := by rw [pOf0]; exact hr.lower hb1.size
    have HT2 := Lib.hid hT2
    have HB2 := Lib.hid hB2
    clear ht hr hb2 hB2 hT2 hb1
    go_loopw [8, 9, 28] (fun v8 v9 v28 wr => ∃ (i : Int) (c : Int) (a : Nat) (ln fo : Int) (out : List S46) (bx : Nat), v28 = .int .i64 i ∧ 0 ≤ i ∧ i ≤ l.length ∧ v9 = .pointer (some ⟨bx, 0, none⟩) ∧ Hid (RdrAt wr w.heap.size bx (pOf c) a 0 ln fo) ∧ Hid (vC c a) ∧
      Hid (Kd.R k46 46 wr w.heap.size (fun _ => True) v8 out) ∧ Hid (parseC (l.drop i.toNat) c a ln fo out = (r1, r2, r3)) ∧ Hid (out.length ≤ 16 ∧ (a ≠ 0 → out.length < 16)) ∧ Hid (Kd.R k69 69 wr w.heap.size (fun _ => True) (.slice A l.length cA) l) ∧ Hid (Below w.heap.size w wr)) (fun _ _ v28 _ => l.length - (intOf v28).toNat)
    case atStart => exact ⟨0, 0, 0, 0, 0, [], bx, rfl, by omega, by omega, rfl, Lib.hid hR2, Lib.hid (.inl ⟨rfl, rfl⟩), Lib.hid (Kd.R_nil _ _ _ _ _), H, Lib.hid ⟨by simp, fun h => absurd rfl h⟩, HT2, HB2⟩
    case round =>
      clear hR2 HT2 HB2 hU
      obtain ⟨i, c, a, ln, fo, out, bx, rfl, hi0, hi1, rfl, HR, HV, HO, HP, HC, HT, HB⟩ := hrel
      have hmax := Kd.C_max (Kd.R_reads' HT.out).2.2
      by_cases hi : i < (l.length : Int)
      · have hb2 : decide (i < (l.length : Int)) = true := decide_eq_true hi
        obtain ⟨ad, eA, hx0, hx1, hx2, hx3⟩ := at_T69 (Kd.R_reads' HT.out).2.2 i hi0 hi
        cases eA
        have p0 := eq_true hi0
        have p1 := eq_true hi
        have HI0 := Lib.hid hi0
        have HI := Lib.hid hi
        clear hi0 hi
        go_upto_region 9 with (first | ((with_reducible refine gate_dst (N := 11) rfl ?_); (try (refine gate_guard (by rfl) ?_; dsimp only)); refine box_event ?hg (N := 11) ?hd (cs := #[.int .i64 0, .string (⟨#[]⟩ : ByteArray), .int .i64 0, .int .i64 0]) (t := 69) ?hr ?_; (case hd => rfl); (case hg => rfl); (case hr => first | (go_simp; done) | (go_simp; rfl)); intro gb hg w3 hbox hb3; have HG := Lib.hid hg; clear hg; have y0 : w3.cell? ⟨gb, 0, none⟩ = some (.int .i64 0) := (by rw [Lib.cell_of_heap hbox]; rfl); have y1 : w3.cell? ⟨gb, 1, none⟩ = some (.string ⟨#[]⟩) := (by rw [Lib.cell_of_heap hbox]; rfl); have y2 : w3.cell? ⟨gb, 2, none⟩ = some (.int .i64 0) := (by rw [Lib.cell_of_heap hbox]; rfl); have y3 : w3.cell? ⟨gb, 3, none⟩ = some (.int .i64 0) := (by rw [Lib.cell_of_heap hbox]; rfl); have f0 : w3.frozen? ⟨gb, 0, none⟩ = false := Lib.frozen_of_heap hbox 0; have f1 : w3.frozen? ⟨gb, 1, none⟩ = false := Lib.frozen_of_heap hbox 1; have f2 : w3.frozen? ⟨gb, 2, none⟩ = false := Lib.frozen_of_heap hbox 2; have f3 : w3.frozen? ⟨gb, 3, none⟩ = false := Lib.frozen_of_heap hbox 3))
        have s1 := heap_setCell_same w3 gb 0 _ 69 (.int .i64 (rd_T69 l i).f0) hbox
        have s2 := heap_setCell_same _ gb 1 _ 69 (.string (rd_T69 l i).f1) s1
        have s3 := heap_setCell_same _ gb 2 _ 69 (.int .i64 (rd_T69 l i).f2) s2
        have s4 := heap_setCell_same _ gb 3 _ 69 (.int .i64 (rd_T69 l i).f3) s3
        have hg4 : wr.grownBy ((((w3.setCell ⟨gb, 0, none⟩ (.int .i64 (rd_T69 l i).f0)).setCell ⟨gb, 1, none⟩ (.string (rd_T69 l i).f1)).setCell ⟨gb, 2, none⟩ (.int .i64 (rd_T69 l i).f2)).setCell ⟨gb, 3, none⟩ (.int .i64 (rd_T69 l i).f3)) none :=
          (below_grown hb3 none).andThen ((((g_set w3 gb 0 (.int .i64 (rd_T69 l i).f0)).trans (g_set _ gb 1 (.string (rd_T69 l i).f1))).trans (g_set _ gb 2 (.int .i64 (rd_T69 l i).f2))).trans (g_set _ gb 3 (.int .i64 (rd_T69 l i).f3))) (fun j hj => by cases hj; left; rw [HG.out]; exact Nat.le_refl _)
        obtain ⟨w4, hw4⟩ : ∃ W : World, (((w3.setCell ⟨gb, 0, none⟩ (.int .i64 (rd_T69 l i).f0)).setCell ⟨gb, 1, none⟩ (.string (rd_T69 l i).f1)).setCell ⟨gb, 2, none⟩ (.int .i64 (rd_T69 l i).f2)).setCell ⟨gb, 3, none⟩ (.int .i64 (rd_T69 l i).f3) = W := ⟨_, rfl⟩
        rw [hw4] at s4 hg4
        rw [hw4]
        have hdrop : l.drop i.toNat = rd_T69 l i :: l.drop (i + 1).toNat := by
          have h1 : i.toNat < l.length := by have := HI.out; have := HI0.out; omega
          rw [List.drop_eq_getElem_cons h1]
          congr 1
          · show l[i.toNat] = l.getD i.toNat z69
            rw [List.getD_eq_getElem?_getD, List.getElem?_eq_getElem h1]
            rfl
          · congr 1
            have := HI0.out
            omega
        have HP' := HP.out
        rw [hdrop] at HP'
        clear hw4 s1 s2 s3 y0 y1 y2 y3 f0 f1 f2 f3 hbox hb3 hx0 hx1 hx2 hx3 hdrop HP
        obtain ⟨t, htt⟩ : ∃ t, rd_T69 l i = t := ⟨_, rfl⟩
        rw [htt] at s4 HP'
        rw [htt]
        clear htt
        have HS4 := Lib.hid s4
        have y0 : w4.cell? ⟨gb, 0, none⟩ = some (.int .i64 t.f0) := by rw [Lib.cell_of_heap s4]; rfl
        have y1 : w4.cell? ⟨gb, 1, none⟩ = some (.string t.f1) := by rw [Lib.cell_of_heap s4]; rfl
        have y2 : w4.cell? ⟨gb, 2, none⟩ = some (.int .i64 t.f2) := by rw [Lib.cell_of_heap s4]; rfl
        have y3 : w4.cell? ⟨gb, 3, none⟩ = some (.int .i64 t.f3) := by rw [Lib.cell_of_heap s4]; rfl
        have HR4 := Lib.hid (HR.out.move hg4)
        have HT4 := Lib.hid (Kd.R_grown HT.out hg4 (by simp))
        have HO4 := Lib.hid (Kd.R_grown HO.out hg4 (by simp))
        have HB4 := Lib.hid (HB.out.grown hg4 HB.out.size (by simp))
        have x2 : w4.cell? ⟨bx, 2, none⟩ = some (.int .i64 (a : Int)) := by
          obtain ⟨_, _, _, hX, _⟩ := HR4.out
          rw [Lib.cell_of_heap hX]
          rfl
        obtain ⟨Ao, co, hu8⟩ := Kd.R_slice HO4.out
        subst hu8
        clear s4 hg4 HR HT HO HB
        have ha4 := vC_le HV.out
        have hol := HC.out.1
        have HW1 : wrap64 (i + 1) = i + 1 := by
          have := HI.out
          have := HI0.out
          unfold wrap64
          omega
        have HWI := Lib.hid HW1
        clear HW1
        by_cases hk : t.f0 ≠ 3 ∧ t.f0 ≠ 0
        · have k1 : (t.f0 != 3) = true := bne_iff_ne.2 hk.1
          have k2 : (t.f0 != 0) = true := bne_iff_ne.2 hk.2
          rw [parseC, if_pos hk] at HP'
          clear hk
          by_cases hf : a = 0 ∧ 16 ≤ out.length
          · rw [if_pos hf] at HP'
            have HPH := Lib.hid HP'
            have k3 : ((a : Int) == 0) = true := by rw [hf.1]; rfl
            have k4 : (a == 0) = true := by rw [hf.1]; rfl
            have k5 : decide (16 ≤ (out.length : Int)) = true := decide_eq_true (by omega)
            have k6 : decide (16 ≤ out.length) = true := decide_eq_true hf.2
            clear HP' hf hol
            go_wp2
            go_quiet (fail)
            go_wp2
            go_ret3
            have e := HPH.out
            simp only [Prod.mk.injEq] at e
            obtain ⟨rfl, rfl, rfl⟩ := e
            exact ⟨_, rfl, Kd.R_nil _ _ _ _ _, pw_below_drewN HB4.out _⟩
          · rw [if_neg hf] at HP'
            have hol2 : out.length < 16 := by
              by_cases h0 : a = 0
              · omega
              · exact HC.out.2 h0
            have k5 : decide (16 ≤ (out.length : Int)) = false := decide_eq_false (by omega)
            have k6 : decide (16 ≤ out.length) = false := decide_eq_false (by omega)
            have HOL := Lib.hid hol2
            by_cases he : nextE (pOf c) a t = 0
            · rw [if_pos he] at HP'
              have HPH := Lib.hid HP'
              have HE := Lib.hid he
              clear HP' hf hol he hol2
              by_cases h0 : a = 0
              · have k3 : ((a : Int) == 0) = true := by rw [h0]; rfl
                have k4 : (a == 0) = true := by rw [h0]; rfl
                clear h0
                go_wp2_with (go_at_call 22; refine (calrule_next.calls t w.heap.size bx a (pOf c) 0 ln fo _ HR4.out (by omega) (fun k hk => pOf_kind HV.out hk) (next_hu HV.out t)).mono ?_; rw [HE.out]; rintro e w5 ⟨rfl, hg5, hR5⟩)
                have hx := HR4.out
                obtain ⟨_, _, _, hX, _⟩ := hx
                obtain ⟨n1, n2⟩ := next_ok HV.out HE.out
                have hR6 := hR5 (by simp)
                rw [n1] at hR6
                have HR6 := Lib.hid hR6
                have HT6 := Lib.hid (Kd.R_grown1 HT4.out rfl hg5 (Kd.R_ne HT4.out hX (by decide)))
                have HO6 := Lib.hid (Kd.R_grown1 HO4.out rfl hg5 (Kd.R_ne HO4.out hX (by decide)))
                have HB6 := Lib.hid (HB4.out.grown hg5 HB4.out.size (fun j hj => by cases hj; obtain ⟨_, _, h, _⟩ := HR4.out; exact h))
                clear hX hR5 hR6 hg5 y0 y1 y2 y3 x2 n1
                go_wp2
                rw [HWI.out]
                go_roundw
                case rel => exact ⟨i + 1, nextC c t, a + 1, _, _, out, bx, rfl, (by have := HI0.out; omega), (by have := HI.out; omega), rfl, HR6, Lib.hid n2, HO6, HPH, Lib.hid ⟨by have := HOL.out; omega, fun _ => HOL.out⟩, HT6, HB6⟩
                case measure => simp [intOf]; have := HI.out; have := HI0.out; omega
              · have k3 : ((a : Int) == 0) = false := by rw [beq_eq_false_iff_ne]; omega
                have k4 : (a == 0) = false := by rw [beq_eq_false_iff_ne]; exact h0
                clear h0
                go_wp2_with (go_at_call 22; refine (calrule_next.calls t w.heap.size bx a (pOf c) 0 ln fo _ HR4.out (by omega) (fun k hk => pOf_kind HV.out hk) (next_hu HV.out t)).mono ?_; rw [HE.out]; rintro e w5 ⟨rfl, hg5, hR5⟩)
                have hx := HR4.out
                obtain ⟨_, _, _, hX, _⟩ := hx
                obtain ⟨n1, n2⟩ := next_ok HV.out HE.out
                have hR6 := hR5 (by simp)
                rw [n1] at hR6
                have HR6 := Lib.hid hR6
                have HT6 := Lib.hid (Kd.R_grown1 HT4.out rfl hg5 (Kd.R_ne HT4.out hX (by decide)))
                have HO6 := Lib.hid (Kd.R_grown1 HO4.out rfl hg5 (Kd.R_ne HO4.out hX (by decide)))
                have HB6 := Lib.hid (HB4.out.grown hg5 HB4.out.size (fun j hj => by cases hj; obtain ⟨_, _, h, _⟩ := HR4.out; exact h))
                clear hX hR5 hR6 hg5 y0 y1 y2 y3 x2 n1
                go_wp2
                rw [HWI.out]
                go_roundw
                case rel => exact ⟨i + 1, nextC c t, a + 1, _, _, out, bx, rfl, (by have := HI0.out; omega), (by have := HI.out; omega), rfl, HR6, Lib.hid n2, HO6, HPH, Lib.hid ⟨by have := HOL.out; omega, fun _ => HOL.out⟩, HT6, HB6⟩
                case measure => simp [intOf]; have := HI.out; have := HI0.out; omega
            · rw [if_neg he] at HP'
              have HPH := Lib.hid HP'
              have e1 : (nextE (pOf c) a t != 0) = true := bne_iff_ne.2 he
              have e2 : (nextE (pOf c) a t == 0) = false := beq_eq_false_iff_ne.2 he
              clear HP' hf hol he hol2
              by_cases h0 : a = 0
              · have k3 : ((a : Int) == 0) = true := by rw [h0]; rfl
                have k4 : (a == 0) = true := by rw [h0]; rfl
                clear h0
                go_wp2_with (go_at_call 22; refine (calrule_next.calls t w.heap.size bx a (pOf c) 0 ln fo _ HR4.out (by omega) (fun k hk => pOf_kind HV.out hk) (next_hu HV.out t)).mono ?_; rintro e w5 ⟨rfl, hg5, hR5⟩; clear hR5)
                have hx := HR4.out
                obtain ⟨_, _, _, hX, _⟩ := hx
                have z3 : w5.cell? ⟨gb, 3, none⟩ = some (.int .i64 t.f3) := by rw [Lib.cell_of_heap (gk hg5 HS4.out (heap_ne HS4.out hX (by simp)))]; rfl
                have HB6 := Lib.hid (HB4.out.grown hg5 HB4.out.size (fun j hj => by cases hj; obtain ⟨_, _, h, _⟩ := HR4.out; exact h))
                clear hX hg5 y0 y1 y2 y3 x2
                go_wp2
                go_quiet (fail)
                go_wp2
                go_ret3
                have e := HPH.out
                simp only [Prod.mk.injEq] at e
                obtain ⟨rfl, rfl, rfl⟩ := e
                exact ⟨_, rfl, Kd.R_nil _ _ _ _ _, pw_below_drewN HB6.out _⟩
              · have k3 : ((a : Int) == 0) = false := by rw [beq_eq_false_iff_ne]; omega
                have k4 : (a == 0) = false := by rw [beq_eq_false_iff_ne]; exact h0
                clear h0
                go_wp2_with (go_at_call 22; refine (calrule_next.calls t w.heap.size bx a (pOf c) 0 ln fo _ HR4.out (by omega) (fun k hk => pOf_kind HV.out hk) (next_hu HV.out t)).mono ?_; rintro e w5 ⟨rfl, hg5, hR5⟩; clear hR5)
                have hx := HR4.out
                obtain ⟨_, _, _, hX, _⟩ := hx
                have z3 : w5.cell? ⟨gb, 3, none⟩ = some (.int .i64 t.f3) := by rw [Lib.cell_of_heap (gk hg5 HS4.out (heap_ne HS4.out hX (by simp)))]; rfl
                have HB6 := Lib.hid (HB4.out.grown hg5 HB4.out.size (fun j hj => by cases hj; obtain ⟨_, _, h, _⟩ := HR4.out; exact h))
                clear hX hg5 y0 y1 y2 y3 x2
                go_wp2
                go_quiet (fail)
                go_wp2
                go_ret3
                have e := HPH.out
                simp only [Prod.mk.injEq] at e
                obtain ⟨rfl, rfl, rfl⟩ := e
                exact ⟨_, rfl, Kd.R_nil _ _ _ _ _, pw_below_drewN HB6.out _⟩
        · rw [parseC, if_neg hk] at HP'
          have hol2 := HC.out.2
          have hkk : ((t.f0 != 3) = true ∧ (t.f0 != 0) = false) ∨ (t.f0 != 3) = false := by
            by_cases h3 : t.f0 = 3
            · exact .inr (bne_eq_false_iff_eq.2 h3)
            · by_cases h0 : t.f0 = 0
              · exact .inl ⟨bne_iff_ne.2 h3, bne_eq_false_iff_eq.2 h0⟩
              · exact absurd ⟨h3, h0⟩ hk
          clear hk
          by_cases h0 : a = 0
          · rw [if_pos h0] at HP'
            have HPH := Lib.hid HP'
            have k3 : decide (0 < (a : Int)) = false := decide_eq_false (by omega)
            have k4 : decide (0 < a) = false := decide_eq_false (by omega)
            clear h0 HP' hol hol2
            rcases hkk with ⟨m1, m2⟩ | m1
            · go_wp2
              rw [HWI.out]
              go_roundw
              case rel => exact ⟨i + 1, c, a, ln, fo, out, bx, rfl, (by have := HI0.out; omega), (by have := HI.out; omega), rfl, HR4, HV, HO4, HPH, HC, HT4, HB4⟩
              case measure => simp [intOf]; have := HI.out; have := HI0.out; omega
            · go_wp2
              rw [HWI.out]
              go_roundw
              case rel => exact ⟨i + 1, c, a, ln, fo, out, bx, rfl, (by have := HI0.out; omega), (by have := HI.out; omega), rfl, HR4, HV, HO4, HPH, HC, HT4, HB4⟩
              case measure => simp [intOf]; have := HI.out; have := HI0.out; omega
          · rw [if_neg h0] at HP'
            have k3 : decide (0 < (a : Int)) = true := decide_eq_true (by omega)
            have k4 : decide (0 < a) = true := decide_eq_true (by omega)
            have hol3 := hol2 h0
            have HOL := Lib.hid hol3
            clear h0 hol hol2 hol3
            have hx := HR4.out
            obtain ⟨_, _, hbxb, hX, _⟩ := hx
            have HX := Lib.hid hX
            have HBX := Lib.hid hbxb
            clear hX hbxb
            have HWc := calrule_whole.calls w.heap.size bx a (pOf c) 0 ln fo _ HR4.out (by omega) (fun k hk => pOf_kind HV.out hk) (whole_hu HV.out)
            rcases hkk with ⟨m1, m2⟩ | m1
            · cases hwk : wholeK (pOf c) a with
              | none =>
                rw [hwk] at HP' HWc
                simp only at HP'
                have HPH := Lib.hid HP'
                have HWH := Lib.hid (show Calls Tryd.prog 23 #[.pointer (some ⟨bx, 0, none⟩)] w4 (fun e w' => e = .returned (.tuple #[.agg #[.int .i64 0, .int .i64 0, .int .i64 0], .bool false]) ∧ w4.grownBy w' (some bx)) from HWc)
                clear HP' HWc hwk
                go_upto_region 17 with (first | (go_at_call 23; refine HWH.out.mono ?_; rintro e w5 ⟨rfl, hg5⟩) | ((with_reducible refine gate_dst (N := 13) rfl ?_); (try (refine gate_guard (by rfl) ?_; dsimp only)); refine box_event ?hg (N := 13) ?hd (cs := #[.int .i64 0, .int .i64 0, .int .i64 0]) (t := 46) ?hr ?_; (case hd => rfl); (case hg => rfl); (case hr => first | (go_simp; done) | (go_simp; rfl)); intro g2 hg2 w6 hbox hb6; have HG2 := Lib.hid hg2; clear hg2; have b0 : w6.cell? ⟨g2, 0, none⟩ = some (.int .i64 0) := (by rw [Lib.cell_of_heap hbox]; rfl); have b1 : w6.cell? ⟨g2, 1, none⟩ = some (.int .i64 0) := (by rw [Lib.cell_of_heap hbox]; rfl); have b2 : w6.cell? ⟨g2, 2, none⟩ = some (.int .i64 0) := (by rw [Lib.cell_of_heap hbox]; rfl); have f0 : w6.frozen? ⟨g2, 0, none⟩ = false := Lib.frozen_of_heap hbox 0; have f1 : w6.frozen? ⟨g2, 1, none⟩ = false := Lib.frozen_of_heap hbox 1; have f2 : w6.frozen? ⟨g2, 2, none⟩ = false := Lib.frozen_of_heap hbox 2))
                have s1 := heap_setCell_same w6 g2 0 _ 46 (.int .i64 0) hbox
                have s2 := heap_setCell_same _ g2 1 _ 46 (.int .i64 0) s1
                have s3 := heap_setCell_same _ g2 2 _ 46 (.int .i64 0) s2
                have hG6 : w5.grownBy (((w6.setCell ⟨g2, 0, none⟩ (.int .i64 0)).setCell ⟨g2, 1, none⟩ (.int .i64 0)).setCell ⟨g2, 2, none⟩ (.int .i64 0)) none :=
                  (below_grown hb6 none).andThen (((g_set w6 g2 0 (.int .i64 0)).trans (g_set _ g2 1 (.int .i64 0))).trans (g_set _ g2 2 (.int .i64 0))) (fun j hj => by cases hj; left; rw [HG2.out]; exact Nat.le_refl _)
                obtain ⟨w7, hw7⟩ : ∃ W : World, ((w6.setCell ⟨g2, 0, none⟩ (.int .i64 0)).setCell ⟨g2, 1, none⟩ (.int .i64 0)).setCell ⟨g2, 2, none⟩ (.int .i64 0) = W := ⟨_, rfl⟩
                rw [hw7] at s3 hG6
                rw [hw7]
                have HB7 := Lib.hid ((HB4.out.grown hg5 HB4.out.size (fun j hj => by cases hj; exact HBX.out)).grown hG6 (Nat.le_trans HB4.out.size hg5.size) (by simp))
                have HT7 := Lib.hid (Kd.R_grown (Kd.R_grown1 HT4.out rfl hg5 (Kd.R_ne HT4.out HX.out (by decide))) hG6 (by simp))
                have HO7 := Lib.hid (Kd.R_grown (Kd.R_grown1 HO4.out rfl hg5 (Kd.R_ne HO4.out HX.out (by decide))) hG6 (by simp))
                have z3 : w7.cell? ⟨gb, 3, none⟩ = some (.int .i64 t.f3) := by rw [Lib.cell_of_heap (gn hG6 (gk hg5 HS4.out (heap_ne HS4.out HX.out (by simp))))]; rfl
                have z0 : w7.cell? ⟨g2, 0, none⟩ = some (.int .i64 0) := by rw [Lib.cell_of_heap s3]; rfl
                have z1 : w7.cell? ⟨g2, 1, none⟩ = some (.int .i64 0) := by rw [Lib.cell_of_heap s3]; rfl
                have z2 : w7.cell? ⟨g2, 2, none⟩ = some (.int .i64 0) := by rw [Lib.cell_of_heap s3]; rfl
                clear hw7 s1 s2 b0 b1 b2 f0 f1 f2 hbox hb6 hg5 hG6 x2 y0 y1 y2 y3
                go_wp2
                go_quiet (fail)
                go_wp2
                go_ret3
                have e := HPH.out
                simp only [Prod.mk.injEq] at e
                obtain ⟨rfl, rfl, rfl⟩ := e
                exact ⟨_, rfl, Kd.R_nil _ _ _ _ _, pw_below_drewN HB7.out _⟩
              | some kk =>
                rw [hwk] at HP' HWc
                simp only at HP'
                have HPH := Lib.hid HP'
                have HWH := Lib.hid (show Calls Tryd.prog 23 #[.pointer (some ⟨bx, 0, none⟩)] w4 (fun e w' => e = .returned (.tuple #[.agg #[.int .i64 kk, .int .i64 ln, .int .i64 fo], .bool true]) ∧ w4.grownBy w' (some bx)) from HWc)
                clear HP' HWc hwk
                go_upto_region 17 with (first | (go_at_call 23; refine HWH.out.mono ?_; rintro e w5 ⟨rfl, hg5⟩) | ((with_reducible refine gate_dst (N := 13) rfl ?_); (try (refine gate_guard (by rfl) ?_; dsimp only)); refine box_event ?hg (N := 13) ?hd (cs := #[.int .i64 0, .int .i64 0, .int .i64 0]) (t := 46) ?hr ?_; (case hd => rfl); (case hg => rfl); (case hr => first | (go_simp; done) | (go_simp; rfl)); intro g2 hg2 w6 hbox hb6; have HG2 := Lib.hid hg2; clear hg2; have b0 : w6.cell? ⟨g2, 0, none⟩ = some (.int .i64 0) := (by rw [Lib.cell_of_heap hbox]; rfl); have b1 : w6.cell? ⟨g2, 1, none⟩ = some (.int .i64 0) := (by rw [Lib.cell_of_heap hbox]; rfl); have b2 : w6.cell? ⟨g2, 2, none⟩ = some (.int .i64 0) := (by rw [Lib.cell_of_heap hbox]; rfl); have f0 : w6.frozen? ⟨g2, 0, none⟩ = false := Lib.frozen_of_heap hbox 0; have f1 : w6.frozen? ⟨g2, 1, none⟩ = false := Lib.frozen_of_heap hbox 1; have f2 : w6.frozen? ⟨g2, 2, none⟩ = false := Lib.frozen_of_heap hbox 2))
                have s1 := heap_setCell_same w6 g2 0 _ 46 (.int .i64 kk) hbox
                have s2 := heap_setCell_same _ g2 1 _ 46 (.int .i64 ln) s1
                have s3 := heap_setCell_same _ g2 2 _ 46 (.int .i64 fo) s2
                have hG6 : w5.grownBy (((w6.setCell ⟨g2, 0, none⟩ (.int .i64 kk)).setCell ⟨g2, 1, none⟩ (.int .i64 ln)).setCell ⟨g2, 2, none⟩ (.int .i64 fo)) none :=
                  (below_grown hb6 none).andThen (((g_set w6 g2 0 (.int .i64 kk)).trans (g_set _ g2 1 (.int .i64 ln))).trans (g_set _ g2 2 (.int .i64 fo))) (fun j hj => by cases hj; left; rw [HG2.out]; exact Nat.le_refl _)
                obtain ⟨w7, hw7⟩ : ∃ W : World, ((w6.setCell ⟨g2, 0, none⟩ (.int .i64 kk)).setCell ⟨g2, 1, none⟩ (.int .i64 ln)).setCell ⟨g2, 2, none⟩ (.int .i64 fo) = W := ⟨_, rfl⟩
                rw [hw7] at s3 hG6
                rw [hw7]
                have HB7 := Lib.hid ((HB4.out.grown hg5 HB4.out.size (fun j hj => by cases hj; exact HBX.out)).grown hG6 (Nat.le_trans HB4.out.size hg5.size) (by simp))
                have HT7 := Lib.hid (Kd.R_grown (Kd.R_grown1 HT4.out rfl hg5 (Kd.R_ne HT4.out HX.out (by decide))) hG6 (by simp))
                have HO7 := Lib.hid (Kd.R_grown (Kd.R_grown1 HO4.out rfl hg5 (Kd.R_ne HO4.out HX.out (by decide))) hG6 (by simp))
                have z3 : w7.cell? ⟨gb, 3, none⟩ = some (.int .i64 t.f3) := by rw [Lib.cell_of_heap (gn hG6 (gk hg5 HS4.out (heap_ne HS4.out HX.out (by simp))))]; rfl
                have z0 : w7.cell? ⟨g2, 0, none⟩ = some (.int .i64 kk) := by rw [Lib.cell_of_heap s3]; rfl
                have z1 : w7.cell? ⟨g2, 1, none⟩ = some (.int .i64 ln) := by rw [Lib.cell_of_heap s3]; rfl
                have z2 : w7.cell? ⟨g2, 2, none⟩ = some (.int .i64 fo) := by rw [Lib.cell_of_heap s3]; rfl
                clear hw7 s1 s2 b0 b1 b2 f0 f1 f2 hbox hb6 hg5 hG6 x2 y0 y1 y2 y3
                go_wp2_with (first | ((with_reducible refine gate_builtin (b := .append) (xs := #[.tmp 74, .tmp 76]) rfl ?_); at_builtin; refine Kd.R_append k46 (w0 := w) w.heap.size rfl (.tmp 74) (.tmp 76) 22 46 (.agg #[(.int .i64 0), (.int .i64 0), (.int .i64 0)]) 24 rfl Tryd.underlying22 info46 rfl (by decide) (by omega) (.slice Ao out.length co) out (⟨kk, ln, fo⟩ : S46) [.int .i64 kk, .int .i64 ln, .int .i64 fo] (fun _ => True) (fun _ => False) rfl (by first | (go_simp; done) | rfl) ?aP (fun _ hk => hk.elim) (fun _ _ => trivial) HO7.out HB7.out HB7.out.size ?aL ?_; (case aP => exact k46_mkM _ _ _ (⟨kk, ln, fo⟩ : S46)); (case aL => have := HOL.out; omega); intro v8 w8 ho8 hb8 hg8 hat8; have HT8 := Lib.hid (Kd.R_over' HT7.out (Kd.R_typed HO7.out) (by decide) hg8); have HO8 := Lib.hid ho8; have HB8 := Lib.hid hb8; clear ho8 hb8 hg8 hat8) | (go_at_call 21; refine (calrule_begin.calls _).mono ?_; rintro e w9 ⟨b9, rfl, hr9, hb9⟩; have HT9 := Lib.hid (Kd.R_below HT8.out hb9); have HO9 := Lib.hid (Kd.R_below HO8.out hb9); have HB9 := Lib.hid (HB8.out.trans (hb9.mono HB8.out.size)); have HR9 := Lib.hid (hr9.lower HB8.out.size); clear hr9 hb9))
                rw [HWI.out]
                go_roundw
                case rel => exact ⟨i + 1, 0, 0, 0, 0, _, b9, rfl, (by have := HI0.out; omega), (by have := HI.out; omega), rfl, (by rw [pOf0]; exact HR9), Lib.hid (.inl ⟨rfl, rfl⟩), HO9, HPH, Lib.hid ⟨by rw [List.length_append]; have := HOL.out; simp; omega, fun h => absurd rfl h⟩, HT9, HB9⟩
                case measure => simp [intOf]; have := HI.out; have := HI0.out; omega
            · cases hwk : wholeK (pOf c) a with
              | none =>
                rw [hwk] at HP' HWc
                simp only at HP'
                have HPH := Lib.hid HP'
                have HWH := Lib.hid (show Calls Tryd.prog 23 #[.pointer (some ⟨bx, 0, none⟩)] w4 (fun e w' => e = .returned (.tuple #[.agg #[.int .i64 0, .int .i64 0, .int .i64 0], .bool false]) ∧ w4.grownBy w' (some bx)) from HWc)
                clear HP' HWc hwk
                go_upto_region 17 with (first | (go_at_call 23; refine HWH.out.mono ?_; rintro e w5 ⟨rfl, hg5⟩) | ((with_reducible refine gate_dst (N := 13) rfl ?_); (try (refine gate_guard (by rfl) ?_; dsimp only)); refine box_event ?hg (N := 13) ?hd (cs := #[.int .i64 0, .int .i64 0, .int .i64 0]) (t := 46) ?hr ?_; (case hd => rfl); (case hg => rfl); (case hr => first | (go_simp; done) | (go_simp; rfl)); intro g2 hg2 w6 hbox hb6; have HG2 := Lib.hid hg2; clear hg2; have b0 : w6.cell? ⟨g2, 0, none⟩ = some (.int .i64 0) := (by rw [Lib.cell_of_heap hbox]; rfl); have b1 : w6.cell? ⟨g2, 1, none⟩ = some (.int .i64 0) := (by rw [Lib.cell_of_heap hbox]; rfl); have b2 : w6.cell? ⟨g2, 2, none⟩ = some (.int .i64 0) := (by rw [Lib.cell_of_heap hbox]; rfl); have f0 : w6.frozen? ⟨g2, 0, none⟩ = false := Lib.frozen_of_heap hbox 0; have f1 : w6.frozen? ⟨g2, 1, none⟩ = false := Lib.frozen_of_heap hbox 1; have f2 : w6.frozen? ⟨g2, 2, none⟩ = false := Lib.frozen_of_heap hbox 2))
                have s1 := heap_setCell_same w6 g2 0 _ 46 (.int .i64 0) hbox
                have s2 := heap_setCell_same _ g2 1 _ 46 (.int .i64 0) s1
                have s3 := heap_setCell_same _ g2 2 _ 46 (.int .i64 0) s2
                have hG6 : w5.grownBy (((w6.setCell ⟨g2, 0, none⟩ (.int .i64 0)).setCell ⟨g2, 1, none⟩ (.int .i64 0)).setCell ⟨g2, 2, none⟩ (.int .i64 0)) none :=
                  (below_grown hb6 none).andThen (((g_set w6 g2 0 (.int .i64 0)).trans (g_set _ g2 1 (.int .i64 0))).trans (g_set _ g2 2 (.int .i64 0))) (fun j hj => by cases hj; left; rw [HG2.out]; exact Nat.le_refl _)
                obtain ⟨w7, hw7⟩ : ∃ W : World, ((w6.setCell ⟨g2, 0, none⟩ (.int .i64 0)).setCell ⟨g2, 1, none⟩ (.int .i64 0)).setCell ⟨g2, 2, none⟩ (.int .i64 0) = W := ⟨_, rfl⟩
                rw [hw7] at s3 hG6
                rw [hw7]
                have HB7 := Lib.hid ((HB4.out.grown hg5 HB4.out.size (fun j hj => by cases hj; exact HBX.out)).grown hG6 (Nat.le_trans HB4.out.size hg5.size) (by simp))
                have HT7 := Lib.hid (Kd.R_grown (Kd.R_grown1 HT4.out rfl hg5 (Kd.R_ne HT4.out HX.out (by decide))) hG6 (by simp))
                have HO7 := Lib.hid (Kd.R_grown (Kd.R_grown1 HO4.out rfl hg5 (Kd.R_ne HO4.out HX.out (by decide))) hG6 (by simp))
                have z3 : w7.cell? ⟨gb, 3, none⟩ = some (.int .i64 t.f3) := by rw [Lib.cell_of_heap (gn hG6 (gk hg5 HS4.out (heap_ne HS4.out HX.out (by simp))))]; rfl
                have z0 : w7.cell? ⟨g2, 0, none⟩ = some (.int .i64 0) := by rw [Lib.cell_of_heap s3]; rfl
                have z1 : w7.cell? ⟨g2, 1, none⟩ = some (.int .i64 0) := by rw [Lib.cell_of_heap s3]; rfl
                have z2 : w7.cell? ⟨g2, 2, none⟩ = some (.int .i64 0) := by rw [Lib.cell_of_heap s3]; rfl
                clear hw7 s1 s2 b0 b1 b2 f0 f1 f2 hbox hb6 hg5 hG6 x2 y0 y1 y2 y3
                go_wp2
                go_quiet (fail)
                go_wp2
                go_ret3
                have e := HPH.out
                simp only [Prod.mk.injEq] at e
                obtain ⟨rfl, rfl, rfl⟩ := e
                exact ⟨_, rfl, Kd.R_nil _ _ _ _ _, pw_below_drewN HB7.out _⟩
              | some kk =>
                rw [hwk] at HP' HWc
                simp only at HP'
                have HPH := Lib.hid HP'
                have HWH := Lib.hid (show Calls Tryd.prog 23 #[.pointer (some ⟨bx, 0, none⟩)] w4 (fun e w' => e = .returned (.tuple #[.agg #[.int .i64 kk, .int .i64 ln, .int .i64 fo], .bool true]) ∧ w4.grownBy w' (some bx)) from HWc)
                clear HP' HWc hwk
                go_upto_region 17 with (first | (go_at_call 23; refine HWH.out.mono ?_; rintro e w5 ⟨rfl, hg5⟩) | ((with_reducible refine gate_dst (N := 13) rfl ?_); (try (refine gate_guard (by rfl) ?_; dsimp only)); refine box_event ?hg (N := 13) ?hd (cs := #[.int .i64 0, .int .i64 0, .int .i64 0]) (t := 46) ?hr ?_; (case hd => rfl); (case hg => rfl); (case hr => first | (go_simp; done) | (go_simp; rfl)); intro g2 hg2 w6 hbox hb6; have HG2 := Lib.hid hg2; clear hg2; have b0 : w6.cell? ⟨g2, 0, none⟩ = some (.int .i64 0) := (by rw [Lib.cell_of_heap hbox]; rfl); have b1 : w6.cell? ⟨g2, 1, none⟩ = some (.int .i64 0) := (by rw [Lib.cell_of_heap hbox]; rfl); have b2 : w6.cell? ⟨g2, 2, none⟩ = some (.int .i64 0) := (by rw [Lib.cell_of_heap hbox]; rfl); have f0 : w6.frozen? ⟨g2, 0, none⟩ = false := Lib.frozen_of_heap hbox 0; have f1 : w6.frozen? ⟨g2, 1, none⟩ = false := Lib.frozen_of_heap hbox 1; have f2 : w6.frozen? ⟨g2, 2, none⟩ = false := Lib.frozen_of_heap hbox 2))
                have s1 := heap_setCell_same w6 g2 0 _ 46 (.int .i64 kk) hbox
                have s2 := heap_setCell_same _ g2 1 _ 46 (.int .i64 ln) s1
                have s3 := heap_setCell_same _ g2 2 _ 46 (.int .i64 fo) s2
                have hG6 : w5.grownBy (((w6.setCell ⟨g2, 0, none⟩ (.int .i64 kk)).setCell ⟨g2, 1, none⟩ (.int .i64 ln)).setCell ⟨g2, 2, none⟩ (.int .i64 fo)) none :=
                  (below_grown hb6 none).andThen (((g_set w6 g2 0 (.int .i64 kk)).trans (g_set _ g2 1 (.int .i64 ln))).trans (g_set _ g2 2 (.int .i64 fo))) (fun j hj => by cases hj; left; rw [HG2.out]; exact Nat.le_refl _)
                obtain ⟨w7, hw7⟩ : ∃ W : World, ((w6.setCell ⟨g2, 0, none⟩ (.int .i64 kk)).setCell ⟨g2, 1, none⟩ (.int .i64 ln)).setCell ⟨g2, 2, none⟩ (.int .i64 fo) = W := ⟨_, rfl⟩
                rw [hw7] at s3 hG6
                rw [hw7]
                have HB7 := Lib.hid ((HB4.out.grown hg5 HB4.out.size (fun j hj => by cases hj; exact HBX.out)).grown hG6 (Nat.le_trans HB4.out.size hg5.size) (by simp))
                have HT7 := Lib.hid (Kd.R_grown (Kd.R_grown1 HT4.out rfl hg5 (Kd.R_ne HT4.out HX.out (by decide))) hG6 (by simp))
                have HO7 := Lib.hid (Kd.R_grown (Kd.R_grown1 HO4.out rfl hg5 (Kd.R_ne HO4.out HX.out (by decide))) hG6 (by simp))
                have z3 : w7.cell? ⟨gb, 3, none⟩ = some (.int .i64 t.f3) := by rw [Lib.cell_of_heap (gn hG6 (gk hg5 HS4.out (heap_ne HS4.out HX.out (by simp))))]; rfl
                have z0 : w7.cell? ⟨g2, 0, none⟩ = some (.int .i64 kk) := by rw [Lib.cell_of_heap s3]; rfl
                have z1 : w7.cell? ⟨g2, 1, none⟩ = some (.int .i64 ln) := by rw [Lib.cell_of_heap s3]; rfl
                have z2 : w7.cell? ⟨g2, 2, none⟩ = some (.int .i64 fo) := by rw [Lib.cell_of_heap s3]; rfl
                clear hw7 s1 s2 b0 b1 b2 f0 f1 f2 hbox hb6 hg5 hG6 x2 y0 y1 y2 y3
                go_wp2_with (first | ((with_reducible refine gate_builtin (b := .append) (xs := #[.tmp 74, .tmp 76]) rfl ?_); at_builtin; refine Kd.R_append k46 (w0 := w) w.heap.size rfl (.tmp 74) (.tmp 76) 22 46 (.agg #[(.int .i64 0), (.int .i64 0), (.int .i64 0)]) 24 rfl Tryd.underlying22 info46 rfl (by decide) (by omega) (.slice Ao out.length co) out (⟨kk, ln, fo⟩ : S46) [.int .i64 kk, .int .i64 ln, .int .i64 fo] (fun _ => True) (fun _ => False) rfl (by first | (go_simp; done) | rfl) ?aP (fun _ hk => hk.elim) (fun _ _ => trivial) HO7.out HB7.out HB7.out.size ?aL ?_; (case aP => exact k46_mkM _ _ _ (⟨kk, ln, fo⟩ : S46)); (case aL => have := HOL.out; omega); intro v8 w8 ho8 hb8 hg8 hat8; have HT8 := Lib.hid (Kd.R_over' HT7.out (Kd.R_typed HO7.out) (by decide) hg8); have HO8 := Lib.hid ho8; have HB8 := Lib.hid hb8; clear ho8 hb8 hg8 hat8) | (go_at_call 21; refine (calrule_begin.calls _).mono ?_; rintro e w9 ⟨b9, rfl, hr9, hb9⟩; have HT9 := Lib.hid (Kd.R_below HT8.out hb9); have HO9 := Lib.hid (Kd.R_below HO8.out hb9); have HB9 := Lib.hid (HB8.out.trans (hb9.mono HB8.out.size)); have HR9 := Lib.hid (hr9.lower HB8.out.size); clear hr9 hb9))
                rw [HWI.out]
                go_roundw
                case rel => exact ⟨i + 1, 0, 0, 0, 0, _, b9, rfl, (by have := HI0.out; omega), (by have := HI.out; omega), rfl, (by rw [pOf0]; exact HR9), Lib.hid (.inl ⟨rfl, rfl⟩), HO9, HPH, Lib.hid ⟨by rw [List.length_append]; have := HOL.out; simp; omega, fun h => absurd rfl h⟩, HT9, HB9⟩
                case measure => simp [intOf]; have := HI.out; have := HI0.out; omega
      · have h0 : i.toNat = l.length := by omega
        have e := HP.out
        rw [h0, List.drop_length, parseC] at e
        simp only [Prod.mk.injEq] at e
        obtain ⟨rfl, rfl, rfl⟩ := e
        have hb2 : decide (i < (l.length : Int)) = false := decide_eq_false hi
        clear h0
        go_wp2
        go_ret3
        exact ⟨_, rfl, HO.out, HB.out⟩
  · rw [if_neg hq] at h
    have hb0 : (q3 == 0) = false := beq_eq_false_iff_ne.2 hq
    have hb1 : (q3 != 0) = true := bne_iff_ne.2 hq
    have H := Lib.hid (Option.some.inj h)
    clear h hq
    go_enter Tryd.func7, Tryd.ntmps7
    go_wp2_with (first | (go_at_call 20; refine (caltok_Lex.calls k a0 l q2 q3 _ hU HL.out).mono ?_; rintro e w1 ⟨v0, rfl, ht, hb1⟩))
    go_ret3
    have e := H.out
    simp only [Prod.mk.injEq] at e
    obtain ⟨rfl, rfl, rfl⟩ := e
    exact ⟨_, rfl, Kd.R_nil _ _ _ _ _, hb1⟩
end Go.Proofs.YtonlbeonblpblaaDoor.All
