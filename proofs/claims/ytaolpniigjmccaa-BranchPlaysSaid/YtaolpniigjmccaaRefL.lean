/-
  The document's Line in Go's memory. No condition but that the list lies as its rows say.
-/
import Derived.Test.YtaolpniigjmccaaRefD
import Derived.Test.YtaolpniigjmccaaKeep
namespace Go.Proofs.Ytaolpniigjmccaa.All
open Go.RowKit Go.Proofs.YtaolpniigjmccaaW.PrintWords Go.Proofs.YtaolpniigjmccaaW.PrintLast Go.Proofs.YtaolpniigjmccaaW.PrintMore Go.Proofs.Ytaolpniigjmccaa.Wd
set_option linter.unusedVariables false
set_option linter.unusedSimpArgs false
theorem rstep_info : (Try.prog.info? 80).map (fun i => (i.zero, i.size, i.bytes)) = some (some (.agg #[.int .i64 0, .int .u64 0, .int .u64 0]), 3, 24) := by kernel_rfl
theorem reads_new3 (w : World) (e : TypeId) (a b c : Value) : Reads (w.alloc (.cells #[a, b, c] e)) (w.heap.size + 1) 3 (some ⟨w.heap.size, 0, none⟩) 1 [a, b, c] := by
  refine ⟨rfl, fun _ => ⟨_, rfl, Nat.lt_succ_self _, fun j u hu => ?_⟩⟩
  have e1 : Addr.add ⟨w.heap.size, 0, none⟩ j = ⟨w.heap.size, j, none⟩ := by
    unfold Addr.add
    split
    · subst_vars; rfl
    · simp
  rw [e1, cell_of_row _ _ j _ _ (0, 0) (heap_alloc_new w _)]
  simpa using hu
theorem XAt.sonc {F : List Tw} {g c blk : Nat} {w : World} (h : XAt w g (some ⟨blk, 0, none⟩) c (refL F)) {id : Int} (hs : isSon F id = true) : pos F id.toNat < (refL F).length ∧ w.cell? { block := blk, off := pos F id.toNat * 4 + 1 } = some (.int .i64 (tw F id).p) ∧ w.cell? { block := blk, off := pos F id.toNat * 4 + 2 } = some (.int .u64 (tw F id).b) := by
  obtain ⟨blk', h1, hlt, e0, e1, e2, e3⟩ := h.son hs
  injection h1 with h1
  injection h1 with h1
  subst h1
  exact ⟨hlt, e1, e2⟩
def LineTo (F : List Tw) (id m cur mo : Int) (done : List St) : Prop := done ++ lineF F cur mo = lineF F id m
theorem LineTo.len {F : List Tw} {id m cur mo : Int} {done : List St} (h : LineTo F id m cur mo done) (ok : Ok F) (ha : aliveF F id = true) : done.length ≤ 1000 := by
  have h1 := congrArg List.length h
  have h2 := tail_len17 ok ha
  unfold lineF at h1
  rw [List.length_append, List.length_cons, List.length_cons] at h1
  omega
theorem LineTo.step {F : List Tw} {id m cur mo : Int} {done : List St} (h : LineTo F id m cur mo done) (ok : Ok F) (hc : aliveF F cur = true) (hz : cur ≠ 0) : LineTo F id m (tw F cur).p (tw F cur).b (done ++ [(cur, (tw F cur).n, mo)]) := by
  unfold LineTo at *
  rw [← h, List.append_assoc]
  unfold lineF
  rw [show tailF F cur = lineF F (tw F cur).p (tw F cur).b from tailF_son ok hc hz]
  rfl
theorem LineTo.done {F : List Tw} {id m mo : Int} {done : List St} (h : LineTo F id m 0 mo done) : done ++ [((0 : Int), (tw F 0).n, mo)] = lineF F id m := by
  unfold LineTo at h
  rw [← h]
  unfold lineF
  rw [tailF_zero]
theorem own_one_more {w : World} {base : Nat} {e : TypeId} {v : Value} {done : List St} {s : St} (h : w.ownsRow base e 3 v (done.length + 1) (stcs done ++ [.int .i64 s.1, .int .u64 s.2.1, .int .u64 s.2.2])) : w.ownsRow base e 3 v (done ++ [s]).length (stcs (done ++ [s])) := by
  rw [stcs_append, List.length_append]
  exact h
set_option maxRecDepth 100000 in
set_option maxHeartbeats 1000000 in
theorem rline_yes {F : List Tw} (ok : Ok F) {g c : Nat} {A : Option Addr} {w : World} (h : XAt w g A c (refL F)) (id m : Int) (h3 : aliveF F id = true) (h4 : (tw F id).n ≤ m) :
    Calls Try.prog 37 #[.pointer (some ⟨g, 0, none⟩), .int .i64 id, .int .u64 m] w fun e w' => ∃ blk cap, e = .returned (.tuple #[.slice (some ⟨blk, 0, none⟩) (lineF F id m).length cap, .bool true]) ∧ w.heap.size ≤ blk ∧ Sts w' blk (lineF F id m) ∧ Below w.heap.size w w' := by
  have AC := Lib.hid (ralive_is ok h id)
  have NC := Lib.hid (rnum_is ok h id)
  have HN : ∀ x, aliveF F x = true → numF F x = (tw F x).n := fun x hx => by unfold numF; rw [if_pos hx]
  rw [h3] at AC
  rw [HN id h3] at NC
  replace HN := Lib.hid HN
  obtain ⟨i0, hi, hz0, hz1, hz2⟩ := info_parts rstep_info
  have HH := Lib.hid h
  have hlenR := refL_len F
  clear h
  have hd : decide (m < (tw F id).n) = false := decide_eq_false (by omega)
  have hi' := Lib.hid hi
  clear hi
  go_enter Try.func37, Try.ntmps37
  go_wp2_with (first | (go_at_call 29; refine AC.out.mono ?_; rintro e w' ⟨rfl, rfl⟩) | (go_at_call 36; refine NC.out.mono ?_; rintro e w' ⟨rfl, rfl⟩))
  clear AC NC hd
  go_loopw [1, 2, 8] (fun v1 v2 v8 wr => ∃ (cur mo : Int) (done : List St), v1 = .int .i64 cur ∧ v2 = .int .u64 mo ∧ aliveF F cur = true ∧ LineTo F id m cur mo done ∧ Hid (wr.ownsRow w.heap.size 80 3 v8 done.length (stcs done)) ∧ Hid (Below w.heap.size w wr)) (fun v1 _ _ _ => (tw F (intOf v1)).n.toNat)
  case atStart =>
    exact ⟨id, m, [], rfl, rfl, h3, rfl, World.ownsRow_nil _ _ _ _, Below.refl _ _⟩
  case round =>
    obtain ⟨cur, mo, done, rfl, rfl, hcur, HD, HO, HB⟩ := hrel
    have HX := HH.out.below HB.out
    have NCr := Lib.hid (rnum_is ok HX cur)
    rw [HN.out cur hcur] at NCr
    have HL1 : done.length ≤ 1000 := HD.len ok h3
    replace HX := Lib.hid HX
    by_cases hz : cur = 0
    · have hs : isSon F cur = false := by subst hz; unfold isSon; simp
      have HE : Hid (done ++ [(cur, (tw F cur).n, mo)] = lineF F id m) := Lib.hid (by subst hz; exact HD.done)
      clear hz
      go_wp2_with (first
        | (at_builtin
           refine wpList_append_any _ rfl _ _ 77 rfl w.heap.size 80 i0 _ 3 24 Try.underlying77 hi'.out hz0 hz1 hz2 rfl (by decide) _ done.length (stcs done) rfl (HO.out.alloc _) _ _ 1 1 [.int .i64 cur, .int .u64 (tw F cur).n, .int .u64 mo] rfl (reads_new3 wr _ _ _ _) (by simp [Value.oneCell']) (by unfold maxLen; omega) (by omega) (by have := HB.out.size; simp; omega) ?_
           intro v1 w1 ho1 hg1 ha1
           have hb1 : Below w.heap.size w w1 := (below_alloc HB.out _).grown hg1 (by have := HB.out.size; simp; omega) (own_base HO.out)
           have FCr := rfind_is ok (HH.out.below hb1) cur
           rw [if_neg (by rw [hs]; decide)] at FCr
           obtain ⟨blk, cap, rfl, hk1, hk2, hk3⟩ := Sts.of_owns (own_one_more (s := (cur, (tw F cur).n, mo)) ho1) (by simp)
           replace FCr := Lib.hid FCr
           replace hb1 := Lib.hid hb1
           replace hk3 := Lib.hid hk3
           replace ho1 := Lib.hid ho1
           replace hg1 := Lib.hid hg1)
        | (go_at_call 36; refine NCr.out.mono ?_; rintro e w' ⟨rfl, rfl⟩)
        | (go_at_call 34; refine FCr.out.mono ?_; rintro e w' ⟨rfl, rfl⟩))
      go_ret2
      exact ⟨blk, cap, ret_2 (by rw [← HE.out, List.length_append]; rfl) rfl, hk1, by rw [← HE.out]; exact hk3.out, hb1.out⟩
    · have hs : isSon F cur = true := isSon_of hcur hz
      obtain ⟨blkA, rfl, _⟩ := HH.out.son hs
      have hson := ok.son cur hs
      have HE := Lib.hid (HD.step ok hcur hz)
      have HM := Lib.hid (show (tw F (tw F cur).p).n.toNat < (tw F cur).n.toNat by have := ok.pos (tw F cur).p; omega)
      replace hson := Lib.hid hson.1
      clear hz
      go_wp2_with (first
        | (at_builtin
           refine wpList_append_any _ rfl _ _ 77 rfl w.heap.size 80 i0 _ 3 24 Try.underlying77 hi'.out hz0 hz1 hz2 rfl (by decide) _ done.length (stcs done) rfl (HO.out.alloc _) _ _ 1 1 [.int .i64 cur, .int .u64 (tw F cur).n, .int .u64 mo] rfl (reads_new3 wr _ _ _ _) (by simp [Value.oneCell']) (by unfold maxLen; omega) (by omega) (by have := HB.out.size; simp; omega) ?_
           intro v1 w1 ho1 hg1 ha1
           have hb1 : Below w.heap.size w w1 := (below_alloc HB.out _).grown hg1 (by have := HB.out.size; simp; omega) (own_base HO.out)
           have HX1 := HH.out.below hb1
           have FCr := rfind_is ok HX1 cur
           rw [if_pos hs] at FCr
           replace FCr := Lib.hid FCr
           obtain ⟨hlt, e1, e2⟩ := HX1.sonc hs
           have hc1 := HX1.cell
           replace hb1 := Lib.hid hb1
           replace ho1 := Lib.hid ho1
           replace hg1 := Lib.hid hg1
           replace HX1 := Lib.hid HX1
           generalize pos F (cur.toNat) = kk at *)
        | (go_at_call 36; refine NCr.out.mono ?_; rintro e w' ⟨rfl, rfl⟩)
        | (go_at_call 34; refine FCr.out.mono ?_; rintro e w' ⟨rfl, rfl⟩))
      go_roundw
      case rel => exact ⟨(tw F cur).p, (tw F cur).b, done ++ [(cur, (tw F cur).n, mo)], rfl, rfl, hson.out, HE.out, Lib.hid (own_one_more (s := (cur, (tw F cur).n, mo)) ho1.out), hb1⟩
      case measure => simp only [intOf]; exact HM.out
set_option maxRecDepth 100000 in
theorem rline_no {F : List Tw} (ok : Ok F) {g c : Nat} {A : Option Addr} {w : World} (h : XAt w g A c (refL F)) (id m : Int) (h3 : aliveF F id = false ∨ m < (tw F id).n) :
    Calls Try.prog 37 #[.pointer (some ⟨g, 0, none⟩), .int .i64 id, .int .u64 m] w fun e w' => e = .returned (.tuple #[.slice none 0 0, .bool false]) ∧ w = w' := by
  have AC := ralive_is ok h id
  have NC := rnum_is ok h id
  cases ha : aliveF F id with
  | false =>
    rw [ha] at AC
    replace AC := Lib.hid AC
    clear NC
    go_enter Try.func37, Try.ntmps37
    go_wp2_with (go_at_call 29; refine AC.out.mono ?_; rintro e w' ⟨rfl, rfl⟩)
    go_ret2
    exact ⟨rfl, rfl⟩
  | true =>
    have h4 : m < (tw F id).n := h3.resolve_left (by rw [ha]; decide)
    rw [show numF F id = (tw F id).n by unfold numF; rw [if_pos ha]] at NC
    rw [ha] at AC
    replace AC := Lib.hid AC
    replace NC := Lib.hid NC
    clear h3
    go_enter Try.func37, Try.ntmps37
    go_wp2_with (first | (go_at_call 29; refine AC.out.mono ?_; rintro e w' ⟨rfl, rfl⟩) | (go_at_call 36; refine NC.out.mono ?_; rintro e w' ⟨rfl, rfl⟩))
    go_ret2
    exact ⟨rfl, rfl⟩
theorem rline_is {F : List Tw} (ok : Ok F) {g c : Nat} {A : Option Addr} {w : World} (h : XAt w g A c (refL F)) (id m : Int) :
    Calls Try.prog 37 #[.pointer (some ⟨g, 0, none⟩), .int .i64 id, .int .u64 m] w fun e w' => ∃ A cap, e = .returned (.tuple #[.slice A (lineL F id m).length cap, .bool (lineOk F id m)]) ∧ Rd g w' A (lineL F id m) ∧ Below w.heap.size w w' := by
  unfold lineL
  by_cases hk : lineOk F id m = true
  · rw [if_pos hk, hk]
    unfold lineOk at hk
    rw [Bool.and_eq_true, decide_eq_true_eq] at hk
    refine (rline_yes ok h id m hk.1 hk.2).mono fun e w' ⟨blk, cap, he, h1, h2, h3⟩ => ⟨_, cap, he, fun _ => ⟨blk, rfl, Nat.lt_of_lt_of_le h.lt h1, h2⟩, h3⟩
  · rw [if_neg hk, show lineOk F id m = false by simpa using hk]
    refine (rline_no ok h id m ?_).mono fun e w' ⟨he, hw⟩ => ⟨none, 0, he, fun hn => absurd rfl hn, by subst hw; exact Below.refl _ _⟩
    unfold lineOk at hk
    cases ha : aliveF F id with
    | false => exact .inl rfl
    | true => rw [ha] at hk; exact .inr (by simpa using hk)
end Go.Proofs.Ytaolpniigjmccaa.All
