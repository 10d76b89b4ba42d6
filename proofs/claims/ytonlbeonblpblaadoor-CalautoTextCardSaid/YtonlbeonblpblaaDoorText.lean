/-
  The Go function calrule.Text, with the library's builder. Condition: the library's tables stand behind strconv.Itoa (Tab).
-/
import Derived.Test.YtonlbeonblpblaaDoorShelf
import Derived.Shelf.Strings.Builder1
import Derived.Test.YtonlbeonblpblaaDoorParse
import Derived.Test.YtonlbeonblpblaaDoorAllx2
import Derived.Test.YtonlbeonblpblaaDoorAllx3
/-! ## strings.Builder's copyCheck, WriteByte and WriteString as they stand in this program's dump (the panic of copyCheck is cut away there). The builder's state is the library's own: Lib.IsBuilder. -/
namespace Go.Proofs.YtonlbeonblpblaaDoor.All
open Go.RowKit Go.Shelf Go.Proofs.YtonlbeonblpblaaDoorW.PrintWords Go.Proofs.YtonlbeonblpblaaDoorW.PrintLast Go.Proofs.YtonlbeonblpblaaDoorW.PrintMore
set_option linter.unusedVariables false
set_option linter.unusedSimpArgs false

/-- Every block but g, and but those of bytes, stands. -/
def Keeps (g : Nat) (w w' : World) : Prop := w.heap.size ≤ w'.heap.size ∧ ∀ k o, w.heap[k]? = some o → k ≠ g → (∀ cs, o ≠ Obj.cells cs 5 (0, 0)) → w'.heap[k]? = some o
theorem Keeps.refl (g : Nat) (w : World) : Keeps g w w := ⟨Nat.le_refl _, fun _ _ h _ _ => h⟩
theorem Keeps.trans {g : Nat} {w w1 w2 : World} (h : Keeps g w w1) (h' : Keeps g w1 w2) : Keeps g w w2 := ⟨Nat.le_trans h.1 h'.1, fun k o ho hk hc => h'.2 k o (h.2 k o ho hk hc) hk hc⟩
theorem Keeps.set {g : Nat} {w w1 : World} (h : Keeps g w w1) (i : Nat) (v : Value) : Keeps g w (w1.setCell ⟨g, i, none⟩ v) := ⟨by simpa using h.1, fun k o ho hk hc => (Below.heap_setCell w1 ⟨g, i, none⟩ v k hk).trans (h.2 k o ho hk hc)⟩
theorem Keeps.alloc {g : Nat} {w w1 : World} (h : Keeps g w w1) (o : Obj) : Keeps g w (w1.alloc o) := ⟨by rw [mapAt_size]; have := h.1; omega, fun k x hx hk hc => mapAt_old (h.2 k x hx hk hc) o⟩
theorem Keeps.grown {g : Nat} {w w1 w2 : World} {v : Value} {B n s : Nat} {xs : List Value} (h : Keeps g w w1) (ho : w1.ownsRow B 5 s v n xs) (hg : w1.grownBy w2 v.ownBlock) : Keeps g w w2 := ⟨Nat.le_trans h.1 hg.size, fun k o hx hk hc => by
  have h1 := h.2 k o hx hk hc
  rw [← h1]
  refine hg.block k (Array.getElem?_eq_some_iff.1 h1).1 (fun e => ?_)
  obtain ⟨cs, hcs⟩ := own_typed ho k e.symm
  rw [h1] at hcs
  exact hc cs (Option.some.inj hcs)⟩
set_option maxHeartbeats 2000000 in
set_option maxRecDepth 100000 in
theorem check_used (b : Nat) (w : World) (h0 : w.cell? ⟨b, 0, none⟩ = some (.pointer (some ⟨b, 0, none⟩))) :
    Calls Tryd.prog 36 #[.pointer (some ⟨b, 0, none⟩)] w fun e w' => e = .returned (.tuple #[]) ∧ w' = w := by
  obtain ⟨j, hj, _⟩ := Option.map_eq_some_iff.1 (show (Tryd.prog.info? 52).map (·.size) = some 2 by kernel_rfl)
  go_enter Tryd.func36, Tryd.ntmps36
  go_wp2
  rw [Lib.run_neq_ptr_same w _ Tryd.underlying50 hj]
  go_wp2
  go_end0
  exact ⟨rfl, rfl⟩
set_option maxHeartbeats 2000000 in
set_option maxRecDepth 100000 in
theorem check_fresh (b : Nat) (w : World) (h0 : w.cell? ⟨b, 0, none⟩ = some (.pointer none)) (hsh : w.shape? b = some (52, 2)) (hfz : w.frozen? ⟨b, 0, none⟩ = false) :
    Calls Tryd.prog 36 #[.pointer (some ⟨b, 0, none⟩)] w fun e w' => e = .returned (.tuple #[]) ∧ w' = w.setCell ⟨b, 0, none⟩ (.pointer (some ⟨b, 0, none⟩)) := by
  obtain ⟨j, hj, hjs⟩ := Option.map_eq_some_iff.1 (show (Tryd.prog.info? 52).map (·.size) = some 2 by kernel_rfl)
  go_enter Tryd.func36, Tryd.ntmps36
  go_wp2
  rw [Lib.run_to_unsafe w ⟨b, 0, none⟩ Tryd.underlying50 Tryd.underlying106 hj (by rw [hjs]; decide) hsh (Nat.zero_lt_succ 1)]
  simp only [Result.andThen]
  rw [Oper.upon_value]
  go_wp2
  rw [run_callFunc_extern Tryd.func51 (by kernel_rfl) (by kernel_rfl) (by kernel_rfl) (e := Extern.AbiNoEscape.same) (by kernel_rfl)]
  rw [Lib.run_noEscape]
  simp only [Result.andThen]
  rw [Oper.upon_value]
  go_wp2
  rw [Lib.run_from_unsafe w ⟨b, 0, none⟩ Tryd.underlying106 Tryd.underlying50 hj hsh (by kernel_rfl)]
  simp only [Result.andThen]
  rw [Oper.upon_value]
  go_wp2
  go_end0
  exact ⟨rfl, rfl⟩
theorem copyCheck_calls (B b : Nat) (bs : List Value) (w : World) (h : Lib.IsBuilder 52 5 B b bs w) :
    Calls Tryd.prog 36 #[.pointer (some ⟨b, 0, none⟩)] w fun e w' => e = .returned (.tuple #[]) ∧ Lib.BuilderAt 52 5 B b (.pointer (some ⟨b, 0, none⟩)) bs w' ∧ Below B w w' ∧ Keeps b w w' := by
  rcases h with h | h
  · refine (check_fresh b w h.cell0 h.shape h.frozen0).mono ?_
    rintro e w' ⟨rfl, rfl⟩
    exact ⟨rfl, h.used _, (Below.refl B w).setCell (p := ⟨b, 0, none⟩) h.1 _, (Keeps.refl b w).set 0 _⟩
  · refine (check_used b w h.cell0).mono ?_
    rintro e w' ⟨rfl, rfl⟩
    exact ⟨rfl, h, Below.refl B _, Keeps.refl b _⟩
set_option maxHeartbeats 2000000 in
set_option maxRecDepth 100000 in
theorem writeByte_calls (B b : Nat) (bs : List Value) (c : Int) (w : World) (h : Lib.IsBuilder 52 5 B b bs w) (hlen : bs.length + 1 ≤ 140737488355328) (hBw : B ≤ w.heap.size) :
    Calls Tryd.prog 16 #[.pointer (some ⟨b, 0, none⟩), .int .u8 c] w fun e w' => e = .returned .nilIface ∧ Lib.BuilderAt 52 5 B b (.pointer (some ⟨b, 0, none⟩)) (bs ++ [.int .u8 c]) w' ∧ Below B w w' ∧ Keeps b w w' := by
  obtain ⟨i0, hi, hz0, hz1, hz2⟩ := info_parts Tryd.Builder_Extra_169.infoByte
  go_enter Tryd.func16, Tryd.ntmps16
  go_wp2_with (go_at_call 36; refine (copyCheck_calls B b bs _ h).mono ?_)
  rintro e w1 ⟨rfl, h1, hb1, hk1⟩
  obtain ⟨hB, v, hbk, hown, hne⟩ := h1
  have c0 : w1.cell? ⟨b, 0, none⟩ = some (.pointer (some ⟨b, 0, none⟩)) := by rw [Lib.cell_of_heap hbk]; rfl
  have c1 : w1.cell? ⟨b, 1, none⟩ = some v := by rw [Lib.cell_of_heap hbk]; rfl
  go_wp2_with (at_builtin; refine wpList_append_own _ rfl _ _ 23 rfl B 5 i0 (.int .u8 0) 1 1 Tryd.underlying23 hi hz0 hz1 hz2 rfl (by decide) _ _ _ rfl (hown.alloc _) ⟨w1.heap.size, 0, none⟩ 1 1 [.int .u8 c] rfl rfl ?c1 ?c2 ?c3 ?c4 ?c5 ?_)
  case c1 =>
    intro j u hj
    match j, hj with
    | 0, hj => simp at hj; subst hj; simp [Addr.add]
  case c2 => intro u hu; simp at hu; subst hu; rfl
  case c3 => unfold maxLen; omega
  case c4 => omega
  case c5 => have := hb1.size; simp; omega
  intro v' w2 hown' hgrow _
  have hlt : b < w1.heap.size := (Array.getElem?_eq_some_iff.1 hbk).1
  have hb2 : w2.heap[b]? = some (.cells #[.pointer (some ⟨b, 0, none⟩), v] 52 (0, 0)) := by
    rw [hgrow.block b (by simp; omega) (fun e => hne e.symm), Lib.alloc_old w1 _ b hlt]
    exact hbk
  have d0 : w2.cell? ⟨b, 0, none⟩ = some (.pointer (some ⟨b, 0, none⟩)) := by rw [Lib.cell_of_heap hb2]; rfl
  have d1 : w2.cell? ⟨b, 1, none⟩ = some v := by rw [Lib.cell_of_heap hb2]; rfl
  have f1 : w2.frozen? ⟨b, 1, none⟩ = false := Lib.frozen_of_heap hb2 1
  obtain ⟨g, cap, rfl⟩ : ∃ g cap, v' = .slice (some ⟨g, 0, none⟩) (bs.length + 1) cap := by
    rcases hown'.2 with ⟨_, h0⟩ | ⟨g, cap, cur, hv, _⟩
    · omega
    · exact ⟨g, cap, hv⟩
  go_wp2
  go_ret
  refine ⟨rfl, ?_, ?_, ?_⟩
  · exact Lib.BuilderAt.put (T := 52) (e := 5) hB hb2 (bs' := bs ++ [.int .u8 c]) (by simpa using hown') (by decide)
  · exact ((hb1.alloc (by have := hb1.size; omega) _).grown hgrow (by have := hb1.size; simp; omega) (fun k hk => (hown.lt k hk).1)).setCell (p := ⟨b, 1, none⟩) hB _
  · exact ((hk1.alloc _).grown (hown.alloc _) hgrow).set 1 _
set_option maxHeartbeats 2000000 in
set_option maxRecDepth 100000 in
theorem writeString_calls (B b : Nat) (bs : List Value) (s : ByteArray) (w : World) (h : Lib.IsBuilder 52 5 B b bs w) (hlen : bs.length + s.size ≤ 140737488355328) (hBw : B ≤ w.heap.size) :
    Calls Tryd.prog 18 #[.pointer (some ⟨b, 0, none⟩), .string s] w fun e w' => e = .returned (.tuple #[.int .i64 s.size, .nilIface]) ∧ Lib.BuilderAt 52 5 B b (.pointer (some ⟨b, 0, none⟩)) (bs ++ Lib.strCells s) w' ∧ Below B w w' ∧ Keeps b w w' := by
  obtain ⟨i0, hi, hz0, hz1, hz2⟩ := info_parts Tryd.Builder_Extra_169.infoByte
  go_enter Tryd.func18, Tryd.ntmps18
  go_wp2_with (go_at_call 36; refine (copyCheck_calls B b bs _ h).mono ?_)
  rintro e w1 ⟨rfl, h1, hb1, hk1⟩
  obtain ⟨hB, v, hbk, hown, hne⟩ := h1
  have c0 : w1.cell? ⟨b, 0, none⟩ = some (.pointer (some ⟨b, 0, none⟩)) := by rw [Lib.cell_of_heap hbk]; rfl
  have c1 : w1.cell? ⟨b, 1, none⟩ = some v := by rw [Lib.cell_of_heap hbk]; rfl
  go_wp2_with (at_builtin; refine Lib.wpList_append_own_string _ rfl _ _ 23 9 rfl B 5 i0 Tryd.underlying23 Tryd.underlying9 hi hz0 hz1 hz2 _ _ _ rfl hown s rfl ?c3 ?c4 ?c5 ?_)
  case c3 => unfold maxLen; omega
  case c4 => omega
  case c5 => have := hb1.size; omega
  intro v' w2 hown' hgrow _
  have hlt : b < w1.heap.size := (Array.getElem?_eq_some_iff.1 hbk).1
  have hb2 : w2.heap[b]? = some (.cells #[.pointer (some ⟨b, 0, none⟩), v] 52 (0, 0)) := by
    rw [hgrow.block b hlt (fun e => hne e.symm)]
    exact hbk
  have d0 : w2.cell? ⟨b, 0, none⟩ = some (.pointer (some ⟨b, 0, none⟩)) := by rw [Lib.cell_of_heap hb2]; rfl
  have d1 : w2.cell? ⟨b, 1, none⟩ = some v := by rw [Lib.cell_of_heap hb2]; rfl
  have f1 : w2.frozen? ⟨b, 1, none⟩ = false := Lib.frozen_of_heap hb2 1
  obtain ⟨ao, n', cap, rfl⟩ : ∃ ao n' cap, v' = .slice ao n' cap := by
    rcases hown'.2 with ⟨hv, _⟩ | ⟨g, cap, cur, hv, _⟩
    · exact ⟨_, _, _, hv⟩
    · exact ⟨_, _, _, hv⟩
  go_wp2
  go_ret2
  refine ⟨rfl, ?_, ?_, ?_⟩
  · exact Lib.BuilderAt.put (T := 52) (e := 5) hB hb2 (bs' := bs ++ Lib.strCells s) (by simpa [Lib.strCells_length] using hown') (by decide)
  · exact (hb1.grown hgrow (by have := hb1.size; omega) (fun k hk => (hown.lt k hk).1)).setCell (p := ⟨b, 1, none⟩) hB _
  · exact (hk1.grown hown hgrow).set 1 _
end Go.Proofs.YtonlbeonblpblaaDoor.All
/-! ## What calrule.Text computes, in plain Lean: 'linesF'. No condition. -/
namespace Go.Proofs.YtonlbeonblpblaaDoor.All
open Go.RowKit Go.Proofs.YtonlbeonblpblaaDoorW.PrintWords Go.Proofs.YtonlbeonblpblaaDoorW.PrintLast Go.Proofs.YtonlbeonblpblaaDoorW.PrintMore
set_option linter.unusedVariables false
set_option linter.unusedSimpArgs false

def addB (acc s : List UInt8) : Option (List UInt8) := if acc.length + s.length ≤ 140737488355328 then some (acc ++ s) else none
def wordF (k : Nat) (f1 f2 : Int) (w : ByteArray) : Option ByteArray := if w.toList = [35] then caltok_Text.f k f1 else if w.toList = [33] then caltok_Text.f k f2 else some w
def wordsF (k : Nat) (f1 f2 : Int) : List ByteArray → Bool → List UInt8 → Option (List UInt8)
  | [], _, acc => some acc
  | w :: ws, first, acc => (if first = true then some acc else addB acc [32]).bind fun acc1 => (wordF k f1 f2 w).bind fun s => (addB acc1 s.data.toList).bind fun acc2 => wordsF k f1 f2 ws false acc2
def linesF (k : Nat) : List S46 → List UInt8 → Option (ByteArray × Int)
  | [], acc => some (⟨acc.toArray⟩, 0)
  | r :: rs, acc => (calrule_Right.f k r.f0 r.f1 r.f2).bind fun b => if b = true then if isKind r.f0 = true then (wordsF k r.f1 r.f2 (wordL r.f0) true acc).bind fun a1 => (addB a1 [10]).bind fun a2 => linesF k rs a2 else none else some (⟨#[]⟩, 3)
def calrule_Text.f (k : Nat) (l0 : List S46) : Option (ByteArray × Int) := if (l0.length : Int) > 16 then some (⟨#[]⟩, 6) else linesF k l0 []
theorem wordF_mono (k : Nat) (f1 f2 : Int) (w : ByteArray) : LeO (wordF k f1 f2 w) (wordF (k + 1) f1 f2 w) := by
  unfold wordF
  refine LeO.ite (caltok_Text.mono _ _) (LeO.ite (caltok_Text.mono _ _) (LeO.refl _))
theorem wordsF_mono (k : Nat) (f1 f2 : Int) : ∀ ws b acc, LeO (wordsF k f1 f2 ws b acc) (wordsF (k + 1) f1 f2 ws b acc)
  | [], _, _ => LeO.refl _
  | w :: ws, b, acc => by
    unfold wordsF
    refine LeO.bind (LeO.refl _) (fun _ => LeO.bind (wordF_mono _ _ _ _) (fun _ => LeO.bind (LeO.refl _) (fun _ => wordsF_mono k f1 f2 ws false _)))
theorem linesF_mono (k : Nat) : ∀ l acc, LeO (linesF k l acc) (linesF (k + 1) l acc)
  | [], _ => LeO.refl _
  | r :: rs, acc => by
    unfold linesF
    refine LeO.bind (calrule_Right.mono _ _ _ _) (fun _ => LeO.ite (LeO.ite (LeO.bind (wordsF_mono _ _ _ _ _ _) (fun _ => LeO.bind (LeO.refl _) (fun _ => linesF_mono k rs _))) (LeO.refl _)) (LeO.refl _))
theorem calrule_Text.mono : ∀ l0 k, LeO (calrule_Text.f k l0) (calrule_Text.f (k + 1) l0) := by
  intro l0 k
  unfold calrule_Text.f
  exact LeO.ite (LeO.refl _) (linesF_mono k l0 [])
end Go.Proofs.YtonlbeonblpblaaDoor.All
/-! ## The Go function calrule.Text. Condition: the library's tables stand behind strconv.Itoa (Tab). -/
namespace Go.Proofs.YtonlbeonblpblaaDoor.All
open Go.RowKit Go.Proofs.YtonlbeonblpblaaDoorW.PrintWords Go.Proofs.YtonlbeonblpblaaDoorW.PrintLast Go.Proofs.YtonlbeonblpblaaDoorW.PrintMore
set_option linter.unusedVariables false
set_option linter.unusedSimpArgs false

abbrev Bld (B b : Nat) (acc : List UInt8) (w : World) : Prop := Lib.IsBuilder 52 5 B b (Lib.byteCells acc) w
theorem Bld.move {B b : Nat} {acc : List UInt8} {w w' : World} (h : Bld B b acc w) (hg : w.grownBy w' none) : Bld B b acc w' := by
  rcases h with ⟨h1, v, h2, h3, h4⟩ | ⟨h1, v, h2, h3, h4⟩
  · exact .inl ⟨h1, v, gn hg h2, h3.kept hg (Classical.em _), h4⟩
  · exact .inr ⟨h1, v, gn hg h2, h3.kept hg (Classical.em _), h4⟩
theorem Bld.cells {B b : Nat} {acc : List UInt8} {w : World} (h : Bld B b acc w) : ∃ p v, w.heap[b]? = some (.cells #[p, v] 52 (0, 0)) := by
  rcases h with ⟨h1, v, h2, h3, h4⟩ | ⟨h1, v, h2, h3, h4⟩ <;> exact ⟨_, _, h2⟩
theorem Keeps.get {w w' : World} {b i : Nat} {o : Obj} (hk : Keeps b w w') (h : w.heap[i]? = some o) (hne : i ≠ b) (h5 : ∀ cs, o ≠ Obj.cells cs 5 (0, 0)) : w'.heap[i]? = some o := hk.2 i o h hne h5
theorem LinesAt.keep {w w' : World} {base bm b : Nat} (h : LinesAt w base bm) (hk : Keeps b w w') (hb : ∃ p v, w.heap[b]? = some (.cells #[p, v] 52 (0, 0))) : LinesAt w' base bm := by
  obtain ⟨p, v, hb⟩ := hb
  obtain ⟨b1, b2, b3, b4, g0, g1, g2, g3, g4, hM, h1, h2, h3, h4⟩ := h
  exact ⟨b1, b2, b3, b4, g0, g1, g2, g3, g4, hk.get hM (heap_ne hM hb (by simp)) (by simp), hk.get h1 (heap_ne h1 hb (by simp)) (by simp), hk.get h2 (heap_ne h2 hb (by simp)) (by simp), hk.get h3 (heap_ne h3 hb (by simp)) (by simp), hk.get h4 (heap_ne h4 hb (by simp)) (by simp)⟩
theorem LinesAt.move {w w' : World} {base bm : Nat} (h : LinesAt w base bm) (hg : w.grownBy w' none) : LinesAt w' base bm := by
  obtain ⟨b1, b2, b3, b4, g0, g1, g2, g3, g4, hM, h1, h2, h3, h4⟩ := h
  exact ⟨b1, b2, b3, b4, g0, g1, g2, g3, g4, gn hg hM, gn hg h1, gn hg h2, gn hg h3, gn hg h4⟩
theorem LinesAt.lower {w : World} {base base' bm : Nat} (h : LinesAt w base bm) (hb : base' ≤ base) : LinesAt w base' bm := by
  obtain ⟨b1, b2, b3, b4, g0, g1, g2, g3, g4, hM, h1, h2, h3, h4⟩ := h
  exact ⟨b1, b2, b3, b4, Nat.le_trans hb g0, Nat.le_trans hb g1, Nat.le_trans hb g2, Nat.le_trans hb g3, Nat.le_trans hb g4, hM, h1, h2, h3, h4⟩
theorem LinesAt.row {W : World} {base bm : Nat} (h : LinesAt W base bm) {k : Int} (hk : isKind k = true) : ∃ b n, (Instr.lookup 53 (.map (some bm)) (.int .i64 k) false).run Tryd.prog W = .ok (.slice (some ⟨b, 0, none⟩) n n) W ∧ W.heap[b]? = some (.cells ((wordL k).map Value.string).toArray 9) ∧ n = (wordL k).length := by
  obtain ⟨b1, b2, b3, b4, g0, g1, g2, g3, g4, hM, h1, h2, h3, h4⟩ := h
  obtain ⟨b, n, e1, e2, e3⟩ := lines_row hM h1 h2 h3 h4 hk
  exact ⟨b, n, e1 W hM, e2, e3⟩
theorem addB_eq {acc s r : List UInt8} (h : addB acc s = some r) : acc.length + s.length ≤ 140737488355328 ∧ r = acc ++ s := by
  unfold addB at h
  by_cases h1 : acc.length + s.length ≤ 140737488355328
  · rw [if_pos h1] at h
    exact ⟨h1, (Option.some.inj h).symm⟩
  · rw [if_neg h1] at h
    cases h
/-- WriteByte and WriteString at a builder that holds bytes. -/
theorem write_byte (B b : Nat) (acc r : List UInt8) (c : UInt8) (w : World) (h : Bld B b acc w) (ha : addB acc [c] = some r) (hBw : B ≤ w.heap.size) :
    Calls Tryd.prog 16 #[.pointer (some ⟨b, 0, none⟩), .int .u8 (c.toNat : Int)] w fun e w' => e = .returned .nilIface ∧ Bld B b r w' ∧ Below B w w' ∧ Keeps b w w' := by
  obtain ⟨h1, rfl⟩ := addB_eq ha
  refine (writeByte_calls B b _ _ w h (by rw [Lib.byteCells_length]; exact h1) hBw).mono ?_
  rintro e w' ⟨rfl, h2, h3, h4⟩
  refine ⟨rfl, .inr ?_, h3, h4⟩
  rw [Lib.byteCells_append]
  exact h2
theorem write_string (B b : Nat) (acc r : List UInt8) (s : ByteArray) (w : World) (h : Bld B b acc w) (ha : addB acc s.data.toList = some r) (hBw : B ≤ w.heap.size) :
    Calls Tryd.prog 18 #[.pointer (some ⟨b, 0, none⟩), .string s] w fun e w' => e = .returned (.tuple #[.int .i64 s.size, .nilIface]) ∧ Bld B b r w' ∧ Below B w w' ∧ Keeps b w w' := by
  obtain ⟨h1, rfl⟩ := addB_eq ha
  refine (writeString_calls B b _ s w h (by rw [Lib.byteCells_length]; simpa using h1) hBw).mono ?_
  rintro e w' ⟨rfl, h2, h3, h4⟩
  refine ⟨rfl, .inr ?_, h3, h4⟩
  rw [Lib.byteCells_append]
  exact h2

/-- The memory while a line is written: the builder, the lines, the rule's box, the line's words. -/
def Stt (w : World) (B bm g b : Nat) (r : S46) (row : Array Value) (acc : List UInt8) (w1 : World) : Prop :=
  Bld B B acc w1 ∧ LinesAt w1 B bm ∧ Below B w w1 ∧ w1.heap[g]? = some (.cells #[.int .i64 r.f0, .int .i64 r.f1, .int .i64 r.f2] 46 (0, 0)) ∧ w1.heap[b]? = some (.cells row 9)
theorem Stt.write {w : World} {B bm g b : Nat} {r : S46} {row : Array Value} {acc acc' : List UInt8} {w1 w2 : World} (h : Stt w B bm g b r row acc w1) (hD : Bld B B acc' w2) (hb : Below B w1 w2) (hk : Keeps B w1 w2) : Stt w B bm g b r row acc' w2 := by
  obtain ⟨h1, h2, h3, h4, h5⟩ := h
  obtain ⟨p, v, hc⟩ := h1.cells
  exact ⟨hD, h2.keep hk ⟨p, v, hc⟩, h3.trans hb, hk.get h4 (heap_ne h4 hc (by simp)) (by simp), hk.get h5 (heap_ne h5 hc (by simp)) (by simp)⟩
theorem Stt.below {w : World} {B bm g b : Nat} {r : S46} {row : Array Value} {acc : List UInt8} {w1 w2 : World} (h : Stt w B bm g b r row acc w1) (hB : w.heap.size = B) (hb : Below w1.heap.size w1 w2) : Stt w B bm g b r row acc w2 := by
  obtain ⟨h1, h2, h3, h4, h5⟩ := h
  exact ⟨h1.move (below_grown hb none), h2.move (below_grown hb none), h3.trans (hb.mono (by rw [← hB]; exact h3.size)), bo h4 hb, bo h5 hb⟩
theorem Stt.size {w : World} {B bm g b : Nat} {r : S46} {row : Array Value} {acc : List UInt8} {w1 : World} (h : Stt w B bm g b r row acc w1) (hB : w.heap.size = B) : B ≤ w1.heap.size := by
  obtain ⟨h1, h2, h3, h4, h5⟩ := h
  rw [← hB]
  exact h3.size
theorem Stt.box1 {w : World} {B bm g b : Nat} {r : S46} {row : Array Value} {acc : List UInt8} {w1 : World} (h : Stt w B bm g b r row acc w1) : w1.cell? ⟨g, 1, none⟩ = some (.int .i64 r.f1) := by
  rw [Lib.cell_of_heap h.2.2.2.1]; rfl
theorem Stt.box2 {w : World} {B bm g b : Nat} {r : S46} {row : Array Value} {acc : List UInt8} {w1 : World} (h : Stt w B bm g b r row acc w1) : w1.cell? ⟨g, 2, none⟩ = some (.int .i64 r.f2) := by
  rw [Lib.cell_of_heap h.2.2.2.1]; rfl
theorem Stt.tab {w : World} {B bm g b : Nat} {r : S46} {row : Array Value} {acc : List UInt8} {w1 : World} (h : Stt w B bm g b r row acc w1) (hB : w.heap.size = B) (hT : Tab w) : Tab w1 := by
  obtain ⟨h1, h2, h3, h4, h5⟩ := h
  exact hT.below (by rw [hB]; exact h3)

set_option maxHeartbeats 4000000 in
set_option maxRecDepth 100000 in
theorem calrule_Text.calls (k : Nat) (A0 : Option Addr) (c0 : Nat) (l0 : List (S46)) (r1 : ByteArray) (r2 : Int) (w : World) (hr0 : Kd.C k46 w A0 l0.length l0) (hc0 : l0.length ≤ c0) (hT : Tab w) (h : calrule_Text.f k l0 = some (r1, r2)) :
    Calls Tryd.prog 6 #[.slice A0 l0.length c0] w fun e w' => e = .returned (.tuple #[.string r1, .int .i64 r2]) ∧ Below w.heap.size w w' := by
  unfold calrule_Text.f at h
  have hmax := Kd.C_max hr0
  by_cases hq : (l0.length : Int) > 16
  · rw [if_pos hq] at h
    have hb0 : decide ((l0.length : Int) > 16) = true := decide_eq_true hq
    have hb1 : decide (16 < l0.length) = true := decide_eq_true (by omega)
    have e := Option.some.inj h
    simp only [Prod.mk.injEq] at e
    obtain ⟨rfl, rfl⟩ := e
    clear h hq
    go_enter Tryd.func6, Tryd.ntmps6
    go_wp2
    go_ret2
    exact ⟨rfl, Below.refl _ _⟩
  · rw [if_neg hq] at h
    have hb0 : decide ((l0.length : Int) > 16) = false := decide_eq_false hq
    have hb1 : decide (16 < l0.length) = false := decide_eq_false (by omega)
    have H := Lib.hid h
    have HR := Lib.hid hr0
    have HTB := Lib.hid hT
    clear h hq hr0 hT
    go_enter Tryd.func6, Tryd.ntmps6
    go_wp2_with (first | (go_at_call 15; refine (calrule_lines.calls _).mono ?_; rintro e w1 ⟨bm, rfl, hL, hb1⟩))
    have hg1 : w.grownBy w1 none := (World.grownBy_alloc w _ none).trans (below_grown hb1 none)
    have hBl : Bld w.heap.size w.heap.size [] w1 := by
      refine .inl ⟨Nat.le_refl _, .slice none 0 0, gn (below_grown hb1 none) (mapAt_new w _), World.ownsRow_nil _ _ _ _, by simp [Value.ownBlock]⟩
    have hL1 : LinesAt w1 w.heap.size bm := hL.lower (by rw [mapAt_size]; omega)
    have hB1 : Below w.heap.size w w1 := (Below.refl _ _).grown hg1 (Nat.le_refl _) (by simp)
    obtain ⟨B, hB⟩ : ∃ B, w.heap.size = B := ⟨_, rfl⟩
    have HBZ := Lib.hid hB
    rw [hB] at hBl hL1 hB1
    rw [hB]
    have HBl := Lib.hid hBl
    have HL1 := Lib.hid hL1
    have HB1 := Lib.hid hB1
    clear hL hb1 hg1 hBl hL1 hB1 hB
    go_loopw [16] (fun v16 wr => ∃ (i : Int) (acc : List UInt8), v16 = .int .i64 i ∧ 0 ≤ i ∧ i ≤ l0.length ∧ Hid (linesF k (l0.drop i.toNat) acc = some (r1, r2)) ∧ Hid (Bld B B acc wr) ∧ Hid (LinesAt wr B bm) ∧ Hid (Below B w wr)) (fun v16 _ => l0.length - (intOf v16).toNat)
    case atStart => exact ⟨0, [], rfl, by omega, by omega, H, HBl, HL1, HB1⟩
    case round =>
      obtain ⟨i, acc, rfl, hi0, hi1, HH, HD, HLn, HBw⟩ := hrel
      by_cases hi : i < (l0.length : Int)
      · have hi2 : decide (i < (l0.length : Int)) = true := decide_eq_true hi
        have hC := Kd.C_below HR.out (by rw [HBZ.out]; exact HBw.out : Below w.heap.size w wr)
        obtain ⟨ad, eA, hx0, hx1, hx2⟩ := at_T46 hC i hi0 hi
        cases eA
        have p0 := eq_true hi0
        have p1 := eq_true hi
        have HI0 := Lib.hid hi0
        have HI := Lib.hid hi
        clear hi0 hi hC
        go_upto_region 8 with (first | ((with_reducible refine gate_dst (N := 7) rfl ?_); (try (refine gate_guard (by rfl) ?_; dsimp only)); refine box_event ?hg (N := 7) ?hd (cs := #[.int .i64 0, .int .i64 0, .int .i64 0]) (t := 46) ?hr ?_; (case hd => rfl); (case hg => rfl); (case hr => first | (go_simp; done) | (go_simp; rfl)); intro g2 hg2 w6 hbox hb6; have HG2 := Lib.hid hg2; clear hg2; have b0 : w6.cell? ⟨g2, 0, none⟩ = some (.int .i64 0) := (by rw [Lib.cell_of_heap hbox]; rfl); have b1 : w6.cell? ⟨g2, 1, none⟩ = some (.int .i64 0) := (by rw [Lib.cell_of_heap hbox]; rfl); have b2 : w6.cell? ⟨g2, 2, none⟩ = some (.int .i64 0) := (by rw [Lib.cell_of_heap hbox]; rfl); have f0 : w6.frozen? ⟨g2, 0, none⟩ = false := Lib.frozen_of_heap hbox 0; have f1 : w6.frozen? ⟨g2, 1, none⟩ = false := Lib.frozen_of_heap hbox 1; have f2 : w6.frozen? ⟨g2, 2, none⟩ = false := Lib.frozen_of_heap hbox 2))
        have s1 := heap_setCell_same w6 g2 0 _ 46 (.int .i64 (rd_T46 l0 i).f0) hbox
        have s2 := heap_setCell_same _ g2 1 _ 46 (.int .i64 (rd_T46 l0 i).f1) s1
        have s3 := heap_setCell_same _ g2 2 _ 46 (.int .i64 (rd_T46 l0 i).f2) s2
        have hg7 : wr.grownBy (((w6.setCell ⟨g2, 0, none⟩ (.int .i64 (rd_T46 l0 i).f0)).setCell ⟨g2, 1, none⟩ (.int .i64 (rd_T46 l0 i).f1)).setCell ⟨g2, 2, none⟩ (.int .i64 (rd_T46 l0 i).f2)) none :=
          (below_grown hb6 none).andThen (((g_set w6 g2 0 (.int .i64 (rd_T46 l0 i).f0)).trans (g_set _ g2 1 (.int .i64 (rd_T46 l0 i).f1))).trans (g_set _ g2 2 (.int .i64 (rd_T46 l0 i).f2))) (fun j hj => by cases hj; left; rw [HG2.out]; exact Nat.le_refl _)
        obtain ⟨w7, hw7⟩ : ∃ W : World, ((w6.setCell ⟨g2, 0, none⟩ (.int .i64 (rd_T46 l0 i).f0)).setCell ⟨g2, 1, none⟩ (.int .i64 (rd_T46 l0 i).f1)).setCell ⟨g2, 2, none⟩ (.int .i64 (rd_T46 l0 i).f2) = W := ⟨_, rfl⟩
        rw [hw7] at s3 hg7
        rw [hw7]
        have hdrop : l0.drop i.toNat = rd_T46 l0 i :: l0.drop (i + 1).toNat := by
          have h1 : i.toNat < l0.length := by have := HI.out; have := HI0.out; omega
          rw [List.drop_eq_getElem_cons h1]
          congr 1
          · show l0[i.toNat] = l0.getD i.toNat z46
            rw [List.getD_eq_getElem?_getD, List.getElem?_eq_getElem h1]
            rfl
          · congr 1
            have := HI0.out
            omega
        have HP' := HH.out
        rw [hdrop] at HP'
        clear hw7 s1 s2 b0 b1 b2 f0 f1 f2 hbox hb6 hx0 hx1 hx2 hdrop HH
        obtain ⟨r, hrr⟩ : ∃ r, rd_T46 l0 i = r := ⟨_, rfl⟩
        rw [hrr] at s3 HP'
        rw [hrr]
        clear hrr
        have HW1 : wrap64 (i + 1) = i + 1 := by
          have := HI.out
          have := HI0.out
          unfold wrap64
          omega
        have HWI := Lib.hid HW1
        clear HW1
        have y0 : w7.cell? ⟨g2, 0, none⟩ = some (.int .i64 r.f0) := by rw [Lib.cell_of_heap s3]; rfl
        have y1 : w7.cell? ⟨g2, 1, none⟩ = some (.int .i64 r.f1) := by rw [Lib.cell_of_heap s3]; rfl
        have y2 : w7.cell? ⟨g2, 2, none⟩ = some (.int .i64 r.f2) := by rw [Lib.cell_of_heap s3]; rfl
        have HS7 := Lib.hid s3
        have HD7 := Lib.hid (HD.out.move hg7)
        have HL7 := Lib.hid (HLn.out.move hg7)
        have HB7 := Lib.hid (HBw.out.grown hg7 (by rw [← HBZ.out]; exact HBw.out.size) (by simp))
        clear s3 hg7 HD HLn HBw
        unfold linesF at HP'
        obtain ⟨br, hbr, HP'⟩ := Option.bind_eq_some_iff.mp HP'
        have HBR := Lib.hid hbr
        clear hbr
        cases br with
        | false =>
          have e := Option.some.inj HP'
          have HPH := Lib.hid e
          clear HP' e
          go_wp2_with (go_at_call 14; refine (calrule_Right.calls k r.f0 r.f1 r.f2 false _ HBR.out).mono ?_; rintro e w8 ⟨rfl, hb8⟩)
          go_ret2
          have e := HPH.out
          simp only [Prod.mk.injEq] at e
          obtain ⟨rfl, rfl⟩ := e
          exact ⟨rfl, by rw [HBZ.out]; exact HB7.out.trans (hb8.mono (by rw [← HBZ.out]; exact HB7.out.size))⟩
        | true =>
          rw [if_pos rfl] at HP'
          by_cases hkd : isKind r.f0 = true
          · rw [if_pos hkd] at HP'
            obtain ⟨a1, hw1, HP'⟩ := Option.bind_eq_some_iff.mp HP'
            obtain ⟨a2, hw2, HP'⟩ := Option.bind_eq_some_iff.mp HP'
            have HPH := Lib.hid HP'
            have HA1 := Lib.hid hw1
            have HA2 := Lib.hid hw2
            clear HP' hw1 hw2
            go_upto_region 10 with (go_at_call 14; refine (calrule_Right.calls k r.f0 r.f1 r.f2 true _ HBR.out).mono ?_; rintro e w8 ⟨rfl, hb8⟩)
            have HS8 := Lib.hid (bo HS7.out hb8)
            have HD8 := Lib.hid (HD7.out.move (below_grown hb8 none))
            have HL8 := Lib.hid (HL7.out.move (below_grown hb8 none))
            have HB8 := Lib.hid (HB7.out.trans (hb8.mono (by rw [← HBZ.out]; exact HB7.out.size)))
            obtain ⟨b, n, hlk, hrow, hn⟩ := HL8.out.row hkd
            have HN := Lib.hid hn
            have HROW := Lib.hid hrow
            have z0 : w8.cell? ⟨g2, 0, none⟩ = some (.int .i64 r.f0) := by rw [Lib.cell_of_heap HS8.out]; rfl
            clear hb8 hn hrow y0 y1 y2 hkd
            go_wp2
            have HST0 : Hid (Stt w B bm g2 b r ((wordL r.f0).map Value.string).toArray acc w8) := Lib.hid ⟨HD8.out, HL8.out, HB8.out, HS8.out, HROW.out⟩
            clear hlk z0 HD8 HL8 HB8 HS8 HROW HD7 HL7 HB7 HS7
            go_loopw [28] (fun v28 wi => ∃ (j : Nat) (ac : List UInt8), v28 = .int .i64 j ∧ j ≤ n ∧ Hid (wordsF k r.f1 r.f2 ((wordL r.f0).drop j) (j == 0) ac = some a1) ∧ Hid (Stt w B bm g2 b r ((wordL r.f0).map Value.string).toArray ac wi)) (fun v28 _ => n - (intOf v28).toNat)
            case atStart => exact ⟨0, acc, rfl, Nat.zero_le _, HA1, HST0⟩
            case round =>
              obtain ⟨j, ac, rfl, hjn, HJW, HST⟩ := hrel
              by_cases hj : j < n
              · have HJ := Lib.hid hj
                have hlen4 := len_le r.f0
                have hn4 : n ≤ 4 := by rw [HN.out]; exact hlen4
                have q1 : decide ((j : Int) < (n : Int)) = true := decide_eq_true (by omega)
                have q2 : decide (j < n) = true := decide_eq_true hj
                have q3 : (0 : Int) ≤ (j : Int) := by omega
                have q4 : (j : Int) < (n : Int) := by omega
                obtain ⟨wd, hwd⟩ : ∃ wd, (wordL r.f0)[j]? = some wd := ⟨_, List.getElem?_eq_getElem (by rw [← HN.out]; exact hj)⟩
                have hrow := HST.out.2.2.2.2
                have hbx := HST.out.2.2.2.1
                have cw : ∀ wi' : World, Hid (Stt w B bm g2 b r ((wordL r.f0).map Value.string).toArray ac wi') → wi'.cell? ⟨b, j, none⟩ = some (.string wd) := fun wi' h => by
                  rw [Lib.cell_of_heap h.out.2.2.2.2]
                  simp [hwd]
                have cw0 := cw _ HST
                have HJW' := HJW.out
                have hdr : (wordL r.f0).drop j = wd :: (wordL r.f0).drop (j + 1) := by
                  have h1 : j < (wordL r.f0).length := by rw [← HN.out]; exact hj
                  rw [List.drop_eq_getElem_cons h1]
                  congr 1
                  rw [List.getElem?_eq_getElem h1] at hwd
                  exact Option.some.inj hwd
                rw [hdr] at HJW'
                unfold wordsF at HJW'
                obtain ⟨acc1, ha1, HJW'⟩ := Option.bind_eq_some_iff.mp HJW'
                obtain ⟨s, hs, HJW'⟩ := Option.bind_eq_some_iff.mp HJW'
                obtain ⟨acc2, ha2, HJW'⟩ := Option.bind_eq_some_iff.mp HJW'
                have HNX : Hid (wordsF k r.f1 r.f2 ((wordL r.f0).drop (j + 1)) (j + 1 == 0) acc2 = some a1) := Lib.hid HJW'
                have HSW0 := Lib.hid hs
                have HADD2 := Lib.hid ha2
                have HJ1 : Hid (IntKind.i64.wrap ((j : Int) + 1) = ((j + 1 : Nat) : Int)) := Lib.hid (by rw [IntWalk.i64_in _ (by omega)]; omega)
                clear HJW HJW' hs ha2 hdr hwd cw hlen4 hrow hbx
                by_cases hj0 : j = 0
                · have k1 : decide (0 < (j : Int)) = false := decide_eq_false (by omega)
                  have k2 : decide (0 < j) = false := decide_eq_false (by omega)
                  rw [show (j == 0) = true by rw [hj0]; rfl, if_pos rfl] at ha1
                  obtain rfl : acc1 = ac := (Option.some.inj ha1).symm
                  have y1 := HST.out.box1
                  have y2 := HST.out.box2
                  clear ha1 hj0 hj
                  by_cases hw35 : wd.toList = [35]
                  · have m1 : (wd.toList == ([35] : List UInt8)) = true := beq_iff_eq.2 hw35
                    have HSW := Lib.hid (show caltok_Text.f k r.f1 = some s by have := HSW0.out; unfold wordF at this; rw [if_pos hw35] at this; exact this)
                    clear hw35
                    go_wp2_with (first | (go_at_call 17; refine (caltok_Text.calls k r.f1 s _ (HST.out.tab HBZ.out HTB.out) HSW.out).mono ?_; rintro e w10 ⟨rfl, hbb⟩; have hst9 := Lib.hid (HST.out.below HBZ.out hbb); clear hbb HST; have HST := hst9; clear hst9) | (go_at_call 18; refine (write_string B B acc1 acc2 s _ HST.out.1 HADD2.out (HST.out.size HBZ.out)).mono ?_; rintro e w11 ⟨rfl, hD, hbb, hk9⟩; have hst9 := Lib.hid (HST.out.write hD hbb hk9); clear hD hbb hk9 HST; have HST := hst9; clear hst9))
                    go_roundw
                    case rel => exact ⟨j + 1, acc2, (by first | rfl | (rw [HJ1.out])), (by have := HJ.out; omega), HNX, HST⟩
                    case measure => simp [intOf]; have := HJ.out; omega
                  · have m1 : (wd.toList == ([35] : List UInt8)) = false := beq_eq_false_iff_ne.2 hw35
                    by_cases hw33 : wd.toList = [33]
                    · have m2 : (wd.toList == ([33] : List UInt8)) = true := beq_iff_eq.2 hw33
                      have HSW := Lib.hid (show caltok_Text.f k r.f2 = some s by have := HSW0.out; unfold wordF at this; rw [if_neg hw35, if_pos hw33] at this; exact this)
                      clear hw35 hw33
                      go_wp2_with (first | (go_at_call 17; refine (caltok_Text.calls k r.f2 s _ (HST.out.tab HBZ.out HTB.out) HSW.out).mono ?_; rintro e w10 ⟨rfl, hbb⟩; have hst9 := Lib.hid (HST.out.below HBZ.out hbb); clear hbb HST; have HST := hst9; clear hst9) | (go_at_call 18; refine (write_string B B acc1 acc2 s _ HST.out.1 HADD2.out (HST.out.size HBZ.out)).mono ?_; rintro e w11 ⟨rfl, hD, hbb, hk9⟩; have hst9 := Lib.hid (HST.out.write hD hbb hk9); clear hD hbb hk9 HST; have HST := hst9; clear hst9))
                      go_roundw
                      case rel => exact ⟨j + 1, acc2, (by first | rfl | (rw [HJ1.out])), (by have := HJ.out; omega), HNX, HST⟩
                      case measure => simp [intOf]; have := HJ.out; omega
                    · have m2 : (wd.toList == ([33] : List UInt8)) = false := beq_eq_false_iff_ne.2 hw33
                      have hws : wd = s := by have := HSW0.out; unfold wordF at this; rw [if_neg hw35, if_neg hw33] at this; exact Option.some.inj this
                      subst hws
                      clear hw35 hw33
                      go_wp2_with (first | (go_at_call 18; refine (write_string B B acc1 acc2 wd _ HST.out.1 HADD2.out (HST.out.size HBZ.out)).mono ?_; rintro e w11 ⟨rfl, hD, hbb, hk9⟩; have hst9 := Lib.hid (HST.out.write hD hbb hk9); clear hD hbb hk9 HST; have HST := hst9; clear hst9))
                      go_roundw
                      case rel => exact ⟨j + 1, acc2, (by first | rfl | (rw [HJ1.out])), (by have := HJ.out; omega), HNX, HST⟩
                      case measure => simp [intOf]; have := HJ.out; omega
                · have k1 : decide (0 < (j : Int)) = true := decide_eq_true (by omega)
                  have k2 : decide (0 < j) = true := decide_eq_true (by omega)
                  rw [show (j == 0) = false by rw [beq_eq_false_iff_ne]; exact hj0, if_neg (by decide)] at ha1
                  have HADD1 := Lib.hid ha1
                  clear ha1 hj0 hj
                  by_cases hw35 : wd.toList = [35]
                  · have m1 : (wd.toList == ([35] : List UInt8)) = true := beq_iff_eq.2 hw35
                    have HSW := Lib.hid (show caltok_Text.f k r.f1 = some s by have := HSW0.out; unfold wordF at this; rw [if_pos hw35] at this; exact this)
                    clear hw35
                    go_wp2_with (first | (go_at_call 16; refine (write_byte B B ac acc1 32 _ HST.out.1 HADD1.out (HST.out.size HBZ.out)).mono ?_; rintro e w9 ⟨rfl, hD, hbb, hk9⟩; have hst9 := Lib.hid (HST.out.write hD hbb hk9); clear hD hbb hk9 HST; have HST := hst9; clear hst9; have y1 := HST.out.box1; have y2 := HST.out.box2) | (go_at_call 17; refine (caltok_Text.calls k r.f1 s _ (HST.out.tab HBZ.out HTB.out) HSW.out).mono ?_; rintro e w10 ⟨rfl, hbb⟩; have hst9 := Lib.hid (HST.out.below HBZ.out hbb); clear hbb HST; have HST := hst9; clear hst9) | (go_at_call 18; refine (write_string B B acc1 acc2 s _ HST.out.1 HADD2.out (HST.out.size HBZ.out)).mono ?_; rintro e w11 ⟨rfl, hD, hbb, hk9⟩; have hst9 := Lib.hid (HST.out.write hD hbb hk9); clear hD hbb hk9 HST; have HST := hst9; clear hst9))
                    go_roundw
                    case rel => exact ⟨j + 1, acc2, (by first | rfl | (rw [HJ1.out])), (by have := HJ.out; omega), HNX, HST⟩
                    case measure => simp [intOf]; have := HJ.out; omega
                  · have m1 : (wd.toList == ([35] : List UInt8)) = false := beq_eq_false_iff_ne.2 hw35
                    by_cases hw33 : wd.toList = [33]
                    · have m2 : (wd.toList == ([33] : List UInt8)) = true := beq_iff_eq.2 hw33
                      have HSW := Lib.hid (show caltok_Text.f k r.f2 = some s by have := HSW0.out; unfold wordF at this; rw [if_neg hw35, if_pos hw33] at this; exact this)
                      clear hw35 hw33
                      go_wp2_with (first | (go_at_call 16; refine (write_byte B B ac acc1 32 _ HST.out.1 HADD1.out (HST.out.size HBZ.out)).mono ?_; rintro e w9 ⟨rfl, hD, hbb, hk9⟩; have hst9 := Lib.hid (HST.out.write hD hbb hk9); clear hD hbb hk9 HST; have HST := hst9; clear hst9; have y1 := HST.out.box1; have y2 := HST.out.box2) | (go_at_call 17; refine (caltok_Text.calls k r.f2 s _ (HST.out.tab HBZ.out HTB.out) HSW.out).mono ?_; rintro e w10 ⟨rfl, hbb⟩; have hst9 := Lib.hid (HST.out.below HBZ.out hbb); clear hbb HST; have HST := hst9; clear hst9) | (go_at_call 18; refine (write_string B B acc1 acc2 s _ HST.out.1 HADD2.out (HST.out.size HBZ.out)).mono ?_; rintro e w11 ⟨rfl, hD, hbb, hk9⟩; have hst9 := Lib.hid (HST.out.write hD hbb hk9); clear hD hbb hk9 HST; have HST := hst9; clear hst9))
                      go_roundw
                      case rel => exact ⟨j + 1, acc2, (by first | rfl | (rw [HJ1.out])), (by have := HJ.out; omega), HNX, HST⟩
                      case measure => simp [intOf]; have := HJ.out; omega
                    · have m2 : (wd.toList == ([33] : List UInt8)) = false := beq_eq_false_iff_ne.2 hw33
                      have hws : wd = s := by have := HSW0.out; unfold wordF at this; rw [if_neg hw35, if_neg hw33] at this; exact Option.some.inj this
                      subst hws
                      clear hw35 hw33
                      go_wp2_with (first | (go_at_call 16; refine (write_byte B B ac acc1 32 _ HST.out.1 HADD1.out (HST.out.size HBZ.out)).mono ?_; rintro e w9 ⟨rfl, hD, hbb, hk9⟩; have hst9 := Lib.hid (HST.out.write hD hbb hk9); clear hD hbb hk9 HST; have HST := hst9; clear hst9) | (go_at_call 18; refine (write_string B B acc1 acc2 wd _ HST.out.1 HADD2.out (HST.out.size HBZ.out)).mono ?_; rintro e w11 ⟨rfl, hD, hbb, hk9⟩; have hst9 := Lib.hid (HST.out.write hD hbb hk9); clear hD hbb hk9 HST; have HST := hst9; clear hst9))
                      go_roundw
                      case rel => exact ⟨j + 1, acc2, (by first | rfl | (rw [HJ1.out])), (by have := HJ.out; omega), HNX, HST⟩
                      case measure => simp [intOf]; have := HJ.out; omega
              · have hjn' : j = n := by omega
                have q1 : decide ((j : Int) < (n : Int)) = false := decide_eq_false (by omega)
                have q2 : decide (j < n) = false := decide_eq_false hj
                have hend : a1 = ac := by
                  have := HJW.out
                  rw [hjn', HN.out, List.drop_length] at this
                  simp only [wordsF, Option.some.injEq] at this
                  exact this.symm
                subst hend
                clear hj hjn' hjn
                go_wp2_with (go_at_call 16; refine (write_byte B B a1 a2 10 _ HST.out.1 HA2.out (HST.out.size HBZ.out)).mono ?_; rintro e w9 ⟨rfl, hD, hbb, hk9⟩; have hst9 := Lib.hid (HST.out.write hD hbb hk9); clear hD hbb hk9 HST; have HST := hst9; clear hst9)
                rw [HWI.out]
                go_roundw
                case rel => exact ⟨i + 1, a2, rfl, (by have := HI0.out; omega), (by have := HI.out; omega), HPH, Lib.hid HST.out.1, Lib.hid HST.out.2.1, Lib.hid HST.out.2.2.1⟩
                case measure => simp [intOf]; have := HI.out; have := HI0.out; omega
          · rw [if_neg hkd] at HP'
            cases HP'
      · have h0 : i.toNat = l0.length := by omega
        have e := HH.out
        rw [h0, List.drop_length] at e
        have HE := Lib.hid e
        have hi2 : decide (i < (l0.length : Int)) = false := decide_eq_false hi
        clear h0 e hi
        have HZ : B ≤ wr.heap.size := by rw [← HBZ.out]; exact HBw.out.size
        have HZH := Lib.hid HZ
        clear HZ
        go_wp2_with (go_at_call 19; refine (Tryd.Builder_String_any B B acc _ HD.out HZH.out).mono ?_; rintro e w8 ⟨rfl, hb8⟩)
        go_ret2
        have e := HE.out
        simp only [linesF, Option.some.injEq, Prod.mk.injEq] at e
        obtain ⟨rfl, rfl⟩ := e
        exact ⟨rfl, by rw [HBZ.out]; exact HBw.out.trans hb8⟩
end Go.Proofs.YtonlbeonblpblaaDoor.All
