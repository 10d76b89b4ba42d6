/-
  The law CalcheckText: its walk, what calcheck tells in plain Lean, and the facts that join them. Condition: the second parameter is a byte.
-/
import Derived.Test.YthnifjggnjcenaaDoorParse
import Derived.Test.YthnifjggnjcenaaDoorText
import Derived.Test.YthnifjggnjcenaaDoorAllx39
import Derived.StillTactics
import Derived.Laws.Runes
import Derived.Laws.RangeAny
import Derived.Test.YthnifjggnjcenaaDoorLexA
import Derived.Test.YthnifjggnjcenaaDoorBackQ
/-! The law CalcheckText, walked: it ranges over a text of plain bytes, parses it twice, and holds the clashes together. Condition: the facts of the plain law (TextFacts). -/
namespace Go.Proofs.YthnifjggnjcenaaDoor.All
open Go.RowKit Go.Proofs.YthnifjggnjcenaaDoorW.PrintWords Go.Proofs.YthnifjggnjcenaaDoorW.PrintLast Go.Proofs.YthnifjggnjcenaaDoorW.PrintMore
attribute [local go_sem] max2_int min2_int max_two min_two max_three min_three max_four min_four
set_option linter.unusedVariables false
set_option linter.unusedSimpArgs false
attribute [local go_sem high] eqA51

/-- More blanks and line ends behind the first lines. -/
def looseL (m : Nat) : Nat → List UInt8 → List UInt8
  | _, [] => []
  | k, c :: r => if c = 10 ∧ k < m then c :: 32 :: 10 :: looseL m (k + 1) r else c :: looseL m k r
/-- What the plain law knows. -/
def TextFacts (k : Nat) (l : List S33) (n : Int) : Prop :=
  erewhilelaw35_awake.f k = some true ∧ 0 ≤ n ∧ n ≤ 255 ∧ ∃ s e, calrule_Text.f k l = some (s, e) ∧ (e = 0 →
    (∀ c ∈ s.data.toList, c.toNat < 128) ∧ s.size ≤ 10000 ∧ calrule_Parse.f k s = some (l, 0, 0) ∧ calrule_Parse.f k (⟨(looseL (n.toNat % 20) 0 s.data.toList).toArray⟩ : ByteArray) = some (l, 0, 0) ∧
    ∃ cl, calcheck_Check.f k l = some cl ∧ calcheck_Sound.f k l = some (decide (cl.length = 0)) ∧ cl.length ≤ 100000)
/-- The iterator is put on. -/
def setIt (w : World) (b : Nat) (o : Obj) : World := { w with heap := w.heap.setIfInBounds b o }
theorem setIt_same {w : World} {b : Nat} {o p : Obj} (h : w.heap[b]? = some p) : (setIt w b o).heap[b]? = some o := by
  have := (Array.getElem?_eq_some_iff.1 h).1
  simp [setIt, this]
theorem setIt_below {B b : Nat} {w w' : World} (o : Obj) (h : Below B w w') (hb : B ≤ b) : Below B w (setIt w' b o) :=
  ⟨h.os, h.tape, h.output, by simpa [setIt] using h.size, fun i hi => by
    rw [← h.block i hi]
    simp only [setIt]
    rw [Array.getElem?_setIfInBounds_ne (by omega)]⟩
theorem it_round {P : Program} (w : World) (b : Nat) (s : ByteArray) (pos : Nat) (ty : TypeId) (hb : w.heap[b]? = some (.stringIter s pos)) (h : pos < s.size) (ha : (s[pos]'h).toNat < 128) :
    (Instr.next (.pointer (some ⟨b, 0, none⟩)) true ty).run P w = .ok (.tuple #[.bool true, .int .i64 pos, .int .i32 (s[pos]'h).toNat]) (setIt w b (.stringIter s (pos + 1))) := by
  simp only [Instr.next, getObj, setObj, Sem.run_bind, Sem.run, hb, Result.andThen, h, if_true, decode_ascii s pos h ha]
  simp [goInt, Sem.run, hb, setIt]
theorem it_end {P : Program} (w : World) (b : Nat) (s : ByteArray) (pos : Nat) (ty : TypeId) (hb : w.heap[b]? = some (.stringIter s pos)) (h : ¬ pos < s.size) :
    (Instr.next (.pointer (some ⟨b, 0, none⟩)) true ty).run P w = .ok (.tuple #[.bool false]) w := by
  simp [Instr.next, getObj, Sem.run, hb, h]
theorem encode_byte {c : UInt8} (h : c.toNat < 128) : Utf8.encode (c.toNat : Int) = ⟨#[c]⟩ := by
  have hv : Utf8.valid (c.toNat : Int) = true := by
    rw [validRune_eq]
    unfold validRune
    rw [decide_eq_true_eq]
    omega
  unfold Utf8.encode
  simp only [hv, if_true, Int.toNat_natCast, h]
  show (⟨#[UInt8.ofNat c.toNat]⟩ : ByteArray) = _
  rw [UInt8.ofNat_toNat]
theorem drop_byte {s : ByteArray} {pos : Nat} (hp : pos < s.size) {c : UInt8} (hc : s[pos]'hp = c) : s.data.toList.drop pos = c :: s.data.toList.drop (pos + 1) := by
  have hl : pos < s.data.toList.length := by rw [Array.length_toList]; exact hp
  rw [List.drop_eq_getElem_cons hl]
  congr 1
theorem loose_same {s ac ac2 u : ByteArray} {pos kk m : Nat} {hp : pos < s.size} {c : UInt8} {R : List UInt8} (hn : ¬ c = 10 ∨ ¬ kk < m) (hc : s[pos]'hp = c) (hu : (⟨#[c]⟩ : ByteArray) = u) (ha : ac ++ u = ac2) (h : ac.data.toList ++ looseL m kk (s.data.toList.drop pos) = R) : ac2.data.toList ++ looseL m kk (s.data.toList.drop (pos + 1)) = R := by
  rw [drop_byte hp hc, looseL, if_neg (fun hh => hn.elim (fun x => x hh.1) (fun x => x hh.2))] at h
  rw [← ha, ← hu, ← h]
  simp [ByteArray.data_append]
theorem loose_more {s ac ac2 u : ByteArray} {pos kk m : Nat} {hp : pos < s.size} {c : UInt8} {R : List UInt8} (h10 : c = 10) (hk : kk < m) (hc : s[pos]'hp = c) (hu : (⟨#[c]⟩ : ByteArray) = u) (ha : ac ++ u = ac2) (h : ac.data.toList ++ looseL m kk (s.data.toList.drop pos) = R) : (ac2 ++ (⟨#[32, 10]⟩ : ByteArray)).data.toList ++ looseL m (kk + 1) (s.data.toList.drop (pos + 1)) = R := by
  rw [drop_byte hp hc, looseL, if_pos ⟨h10, hk⟩] at h
  rw [← ha, ← hu, ← h]
  simp [ByteArray.data_append]
set_option maxHeartbeats 4000000 in
set_option maxRecDepth 100000 in
theorem checkText.calls (k : Nat) (A0 : Option Addr) (c0 : Nat) (l0 : List (S33)) (n : Int) (r : Bool) (w : World) (hr0 : Kd.C k33 w A0 l0.length l0) (hc0 : l0.length ≤ c0) (hU : Units w) (hT : Tab w) (h : TextFacts k l0 n) :
    Calls Tryd.prog 12 #[.slice A0 l0.length c0, .int .u8 n] w fun e w' => e = .returned (.bool true) ∧ Below w.heap.size w w' := by
  obtain ⟨hA, hn0, hn1, s, e, hX, hE⟩ := h
  have HR0 := Aside0.mk hr0
  have HC0 := Aside0.mk hc0
  have HU := Aside0.mk hU
  have HT := Aside0.mk hT
  have HX := Aside0.mk hX
  have HE := Aside0.mk hE
  have HA := Aside0.mk hA
  clear hr0 hc0 hU hT hX hE hA
  go_enter Tryd.func12, Tryd.ntmps12
  go_wp2_with (first | (go_at_call 22; (with_reducible refine (erewhilelaw35_awake.calls k true _ HA.out).mono ?_); rintro e1 w1 ⟨rfl, hb⟩; have HB := Aside0.mk hb; clear hb))
  by_cases c1 : e = 0
  · subst c1
    obtain ⟨hasc, hsz, hP1, hP2, cl, hC, hS, hcl⟩ := HE.out rfl
    have HP1 := Aside0.mk hP1
    have HP2 := Aside0.mk hP2
    have HC := Aside0.mk hC
    have HS := Aside0.mk hS
    clear HE hP1 hP2 hC hS
    obtain ⟨m, hm⟩ : ∃ m, n.toNat % 20 = m := ⟨_, rfl⟩
    rw [hm] at HP2
    go_wp2_with (first | (go_at_call 17; (with_reducible refine (calrule_Text.calls k _ _ l0 s 0 _ (Kd.C_below HR0.out HB.out) HC0.out (Tab.below HT.out HB.out) HX.out).mono ?_); rintro e2 w2 ⟨rfl, hb⟩; have n0_ := Aside0.mk (below_step HB.out hb); clear HB hb; have HB := n0_; clear n0_))
    obtain ⟨b, hbk⟩ : ∃ b, w2.heap.size = b := ⟨_, rfl⟩
    clear hbk
    go_loopw [7, 8] (fun v7 v8 wr => ∃ (kk pos : Nat) (ac : ByteArray), v7 = .int .i64 kk ∧ v8 = .string ac ∧ kk ≤ 10000 ∧ kk ≤ pos ∧ pos ≤ s.size ∧ Hid (ac.data.toList ++ looseL m kk (s.data.toList.drop pos) = looseL m 0 s.data.toList) ∧ ac.size ≤ 3 * pos ∧ Hid (Below w.heap.size w wr) ∧ Hid (wr.heap[w2.heap.size]? = some (.stringIter s pos))) (fun _ _ wr => s.size - wr.iterPos w2.heap.size)
    case atStart => exact ⟨0, 0, ⟨#[]⟩, rfl, rfl, by omega, by omega, by omega, Lib.hid (by simp), by decide, Lib.hid (below_alloc HB.out _), Lib.hid (World.iter_heap w2 s 0)⟩
    case round =>
      obtain ⟨kk, pos, ac, rfl, rfl, hkk, hkp, hpos, HL, hacc, HBr, HI⟩ := hrel
      by_cases hp : pos < s.size
      · obtain ⟨c, hcv⟩ : ∃ c, s[pos]'hp = c := ⟨_, rfl⟩
        have hmem : c ∈ s.data.toList := by rw [← hcv]; exact Array.getElem_mem_toList (xs := s.data) hp
        have hac := hasc c hmem
        have hnx : ∀ ty, (Instr.next (.pointer (some ⟨w2.heap.size, 0, none⟩)) true ty).run Tryd.prog wr = .ok (.tuple #[.bool true, .int .i64 pos, .int .i32 c.toNat]) (setIt wr w2.heap.size (.stringIter s (pos + 1))) := fun ty => by
          rw [← hcv]
          exact it_round wr _ s pos ty HI.out hp (by rw [hcv]; exact hac)
        have henc : Utf8.encode (c.toNat : Int) = ⟨#[c]⟩ := encode_byte hac
        obtain ⟨z, hz⟩ : ∃ z : Int, (c.toNat : Int) = z := ⟨_, rfl⟩
        rw [hz] at hnx henc
        obtain ⟨w3, hw3⟩ : ∃ w3, setIt wr w2.heap.size (.stringIter s (pos + 1)) = w3 := ⟨_, rfl⟩
        rw [hw3] at hnx
        go_upto_region 11 with (fail)
        have e1 : (⟨#[c]⟩ : ByteArray).size = 1 := rfl
        have hct : ac.size + (⟨#[c]⟩ : ByteArray).size ≤ 9223372036854775807 := by rw [e1]; omega
        have hct2 : (9223372036854775807 < ac.size + (⟨#[c]⟩ : ByteArray).size) = False := eq_false (Nat.not_lt.2 hct)
        obtain ⟨u, hu⟩ : ∃ u : ByteArray, (⟨#[c]⟩ : ByteArray) = u := ⟨_, rfl⟩
        rw [hu] at hct hct2 henc
        have HCV := Aside0.mk hcv
        have HZ := Aside0.mk hz
        have HW3 := Aside0.mk hw3
        have HUU := Aside0.mk hu
        clear hcv hz hw3 hu hmem
        go_upto_region 12 with (fail)
        obtain ⟨ac2, hac2⟩ : ∃ ac2, ac ++ u = ac2 := ⟨_, rfl⟩
        rw [hac2]
        have HAC := Aside0.mk hac2
        clear hac2 hnx henc hct hct2
        have hBn := setIt_below (.stringIter s (pos + 1)) HBr.out HB.out.size
        rw [HW3.out] at hBn
        have hIn : w3.heap[w2.heap.size]? = some (.stringIter s (pos + 1)) := by
          rw [← HW3.out]
          exact setIt_same HI.out
        have hsz2 : ac2.size ≤ 3 * pos + 1 := by
          rw [← HAC.out, ByteArray.size_append, ← HUU.out, e1]
          omega
        have hmeas : s.size - w3.iterPos w2.heap.size < s.size - wr.iterPos w2.heap.size := by
          unfold World.iterPos
          rw [hIn, HI.out]
          show s.size - (pos + 1) < s.size - pos
          omega
        have HBn := Lib.hid hBn
        have HIn := Lib.hid hIn
        have HM := Aside0.mk hmeas
        clear hBn hIn hmeas
        by_cases hq : z = 10
        · subst hq
          have hc10 : c = 10 := UInt8.toNat_inj.1 (by have := HZ.out; show c.toNat = 10; omega)
          by_cases hkm : (kk : Int) < n % 20
          · go_upto_region 13 with (fail)
            have e2 : (⟨#[32, 10]⟩ : ByteArray).size = 2 := rfl
            have hct : ac2.size + 2 ≤ 9223372036854775807 := by omega
            have hct2 : (9223372036854775807 < ac2.size + 2) = False := eq_false (Nat.not_lt.2 hct)
            go_upto_region 14 with (fail)
            obtain ⟨ac3, hac3⟩ : ∃ ac3, ac2 ++ (⟨#[32, 10]⟩ : ByteArray) = ac3 := ⟨_, rfl⟩
            rw [hac3]
            have HA3 := Aside0.mk hac3
            have hsz3 : ac3.size ≤ 3 * (pos + 1) := by rw [← hac3, ByteArray.size_append, e2]; omega
            clear hct hct2 e2 hac3
            go_wp2
            exact ⟨⟨kk + 1, pos + 1, ac3, rfl, rfl, by omega, by omega, by omega, Lib.hid (by rw [← HA3.out]; exact loose_more hc10 (by omega) HCV.out HUU.out HAC.out HL.out), hsz3, HBn, HIn⟩, HM.out⟩
          · go_upto_region 13 with (fail)
            exact ⟨⟨kk, rfl, hkk, pos + 1, by omega, by omega, Lib.hid (loose_same (.inr (by omega)) HCV.out HUU.out HAC.out HL.out), by omega, HIn⟩, HM.out⟩
        · have hz10 : (z == 10) = false := beq_eq_false_iff_ne.2 hq
          have hc10 : ¬ c = 10 := fun h => hq (by rw [← HZ.out, h]; rfl)
          go_wp2
          exact ⟨⟨kk, pos + 1, ac2, rfl, rfl, hkk, by omega, by omega, Lib.hid (loose_same (.inl hc10) HCV.out HUU.out HAC.out HL.out), by omega, HBn, HIn⟩, HM.out⟩
      · have hnx : ∀ ty, (Instr.next (.pointer (some ⟨w2.heap.size, 0, none⟩)) true ty).run Tryd.prog wr = .ok (.tuple #[.bool false]) wr := fun ty => it_end wr _ s pos ty HI.out hp
        have hend : ac = (⟨(looseL m 0 s.data.toList).toArray⟩ : ByteArray) := by
          have hle : s.data.toList.drop pos = [] := List.drop_eq_nil_of_le (by rw [Array.length_toList]; exact Nat.le_of_not_lt hp)
          have h := HL.out
          rw [hle, looseL, List.append_nil] at h
          rw [← h]
        go_upto_region 15 with (fail)
        rw [hend]
        clear hnx hend HL hacc HI
        have HB0 := Aside0.mk HBr.out
        clear HB HBr
        go_upto_region 16 with (first | (go_at_call 14; (with_reducible refine (calrule_Parse.calls k s l0 0 0 _ (Units.below HU.out HB0.out) HP1.out).mono ?_); rintro e3 w3 ⟨v3, rfl, ho3, hb⟩; have n0_ := Aside0.mk (below_step HB0.out hb); have HO3 := Aside0.mk (Kd.R_lower ho3 (below_size HB0.out)); clear HB0 hb ho3; have HB3 := n0_; clear n0_))
        obtain ⟨A3, c3, rfl⟩ := Kd.R_slice HO3.out
        go_upto_region 17 with (first | (go_at_call 14; (with_reducible refine (calrule_Parse.calls k _ l0 0 0 _ (Units.below HU.out HB3.out) HP2.out).mono ?_); rintro e4 w4 ⟨v4, rfl, ho4, hb⟩; have n0_ := Aside0.mk (below_step HB3.out hb); have HO4 := Aside0.mk (Kd.R_lower ho4 (below_size HB3.out)); have n1_ := Aside0.mk (Kd.R_below HO3.out hb); clear HB3 HO3 hb ho4; have HB4 := n0_; have HO3 := n1_; clear n0_ n1_))
        obtain ⟨A4, c4, rfl⟩ := Kd.R_slice HO4.out
        go_upto_region 18 with (first | ((with_reducible refine gate_callee (f := 23) rfl ?_); refine goesL_ (some 65) rfl rfl Tryd.func23 (by kernel_rfl) rfl #[.slice A0 l0.length c0] rfl (by (try simp only [List.map_toArray, List.map_cons, List.map_nil]); first | done | rfl) ?_; (with_reducible refine (calcheck_Check.calls k _ _ l0 cl _ (Kd.C_below HR0.out HB4.out) HC0.out HC.out).mono ?_); rintro e5 w5 ⟨v5, rfl, ho5, hb⟩; refine ⟨_, rfl, ?_⟩; have n0_ := Aside0.mk (below_step HB4.out hb); have HO5 := Aside0.mk (Kd.R_lower ho5 (below_size HB4.out)); have n1_ := Aside0.mk (Kd.R_below HO3.out hb); have n2_ := Aside0.mk (Kd.R_below HO4.out hb); clear HB4 HO3 HO4 hb ho5; have HB5 := n0_; have HO3 := n1_; have HO4 := n2_; clear n0_ n1_ n2_; obtain ⟨A5, c5, rfl⟩ := Kd.R_slice HO5.out) | ((with_reducible refine gate_callee (f := 23) rfl ?_); refine goesL_ (some 67) rfl rfl Tryd.func23 (by kernel_rfl) rfl #[.slice A3 l0.length c3] rfl (by (try simp only [List.map_toArray, List.map_cons, List.map_nil]); first | done | rfl) ?_; (with_reducible refine (calcheck_Check.calls k _ _ l0 cl _ (Kd.R_reads' HO3.out).2.2 (Kd.R_reads' HO3.out).2.1 HC.out).mono ?_); rintro e6 w6 ⟨v6, rfl, ho6, hb⟩; refine ⟨_, rfl, ?_⟩; have n0_ := Aside0.mk (below_step HB5.out hb); have HO6 := Aside0.mk (Kd.R_lower ho6 (below_size HB5.out)); have n1_ := Aside0.mk (Kd.R_below HO3.out hb); have n2_ := Aside0.mk (Kd.R_below HO4.out hb); have n3_ := Aside0.mk (Kd.R_below HO5.out hb); clear HB5 HO3 HO4 HO5 hb ho6; have HB6 := n0_; have HO3 := n1_; have HO4 := n2_; have HO5 := n3_; clear n0_ n1_ n2_ n3_; obtain ⟨A6, c6, rfl⟩ := Kd.R_slice HO6.out) | ((with_reducible refine gate_callee (f := 23) rfl ?_); refine goesL_ (some 69) rfl rfl Tryd.func23 (by kernel_rfl) rfl #[.slice A4 l0.length c4] rfl (by (try simp only [List.map_toArray, List.map_cons, List.map_nil]); first | done | rfl) ?_; (with_reducible refine (calcheck_Check.calls k _ _ l0 cl _ (Kd.R_reads' HO4.out).2.2 (Kd.R_reads' HO4.out).2.1 HC.out).mono ?_); rintro e7 w7 ⟨v7, rfl, ho7, hb⟩; refine ⟨_, rfl, ?_⟩; have n0_ := Aside0.mk (below_step HB6.out hb); have HO7 := Aside0.mk (Kd.R_lower ho7 (below_size HB6.out)); have n1_ := Aside0.mk (Kd.R_below HO3.out hb); have n3_ := Aside0.mk (Kd.R_below HO5.out hb); have n4_ := Aside0.mk (Kd.R_below HO6.out hb); clear HB6 HO3 HO4 HO5 HO6 hb ho7; have HB7 := n0_; have HO3 := n1_; have HO5 := n3_; have HO6 := n4_; clear n0_ n1_ n3_ n4_; obtain ⟨A7, c7, rfl⟩ := Kd.R_slice HO7.out))
        go_wp2
        go_loopw [92] (fun v92 wq => ∃ (i : Nat), v92 = .int .i64 i ∧ i ≤ cl.length ∧ Aside0 (Below w.heap.size w wq) ∧ Aside0 (k33.R 33 wq w.heap.size (fun x => True) (Value.slice A3 l0.length c3) l0) ∧ Aside0 (k51.R 51 wq w.heap.size (fun x => True) (Value.slice A5 cl.length c5) cl) ∧ Aside0 (k51.R 51 wq w.heap.size (fun x => True) (Value.slice A6 cl.length c6) cl) ∧ Aside0 (k51.R 51 wq w.heap.size (fun x => True) (Value.slice A7 cl.length c7) cl)) (fun v92 _ => cl.length - (intOf v92).toNat)
        case atStart => exact ⟨0, rfl, by omega, HB7, HO3, HO5, HO6, HO7⟩
        case round =>
          clear HB7 HO3 HO5 HO6 HO7
          obtain ⟨i, rfl, hi, HB7, HO3, HO5, HO6, HO7⟩ := hrel
          by_cases hil : i < cl.length
          · have hil2 : (i : Int) < (cl.length : Int) := by omega
            have hi0 : (0 : Int) ≤ (i : Int) := by omega
            have HB8 := Aside0.mk (below_drew1 HB7.out)
            have HO38 := Aside0.mk (Kd.R_drew HO3.out)
            have HO58 := Aside0.mk (Kd.R_drew HO5.out)
            have HO68 := Aside0.mk (Kd.R_drew HO6.out)
            have HO78 := Aside0.mk (Kd.R_drew HO7.out)
            obtain ⟨ad5, e5, x50, x51, x52⟩ := at_T51 (Kd.R_reads' HO58.out).2.2 (i : Int) hi0 hil2
            obtain ⟨ad6, e6, x60, x61, x62⟩ := at_T51 (Kd.R_reads' HO68.out).2.2 (i : Int) hi0 hil2
            obtain ⟨ad7, e7, x70, x71, x72⟩ := at_T51 (Kd.R_reads' HO78.out).2.2 (i : Int) hi0 hil2
            subst e5 e6 e7
            obtain ⟨t, ht⟩ : ∃ t, rd_T51 cl (i : Int) = t := ⟨_, rfl⟩
            rw [ht] at x50 x51 x52 x60 x61 x62 x70 x71 x72
            clear ht
            go_upto_region 23 with (fail)
            refine wp_region_still_lit (by kernel_rfl) (by kernel_rfl) ?_
            obtain ⟨wz, hwz⟩ : ∃ wz, wr.drew = wz := ⟨_, rfl⟩
            rw [hwz] at x50 x51 x52 x60 x61 x62 x70 x71 x72
            rw [show ({ wr with drawn := wr.drawn + 1 } : World) = wz from hwz]
            have HWZ := Aside0.mk hwz
            clear hwz HB7 HO3 HO5 HO6 HO7
            have hu51 := Tryd.underlying51
            simp only [Int.toNat_natCast] at x50 x51 x52 x60 x61 x62 x70 x71 x72
            repeat still_step
            refine wpStill_nil ?_
            clear x50 x51 x52 x60 x61 x62 x70 x71 x72
            go_wp2
            rw [← HWZ.out]
            refine ⟨⟨i + 1, rfl, by omega, HB8, HO38, HO58, HO68, HO78⟩, ?_⟩
            show cl.length - ((i : Int) + 1).toNat < cl.length - ((i : Int)).toNat
            omega
          · have hil2 : ¬ (i : Int) < (cl.length : Int) := by omega
            go_wp2_with (first | ((with_reducible refine gate_callee (f := 24) rfl ?_); refine goesL_ (some 117) rfl rfl Tryd.func24 (by kernel_rfl) rfl #[.slice A3 l0.length c3] rfl (by (try simp only [List.map_toArray, List.map_cons, List.map_nil]); first | done | rfl) ?_; (with_reducible refine (calcheck_Sound.calls k _ _ l0 (decide (cl.length = 0)) _ (Kd.R_reads' HO3.out).2.2 (Kd.R_reads' HO3.out).2.1 HS.out).mono ?_); rintro e8 w8 ⟨rfl, hb⟩; refine ⟨_, rfl, ?_⟩; have HB8 := Aside0.mk (below_step HB7.out hb); clear hb))
            go_ret
            exact ⟨by cases cl <;> rfl, HB8.out⟩
  · go_wp2_with (first | (go_at_call 17; (with_reducible refine (calrule_Text.calls k _ _ l0 s e _ (Kd.C_below HR0.out HB.out) HC0.out (Tab.below HT.out HB.out) HX.out).mono ?_); rintro e2 w2 ⟨rfl, hb⟩; have n0_ := Aside0.mk (below_step HB.out hb); clear HB hb; have HB := n0_; clear n0_))
    go_ret
    exact ⟨rfl, HB.out⟩
end Go.Proofs.YthnifjggnjcenaaDoor.All

/-! What the program's calcheck and the document's answer compute, in plain Lean: whatever the rules, 'Check' tells the list 'chk', as long as the list has at most 1000 rules. -/
namespace Go.Proofs.YthnifjggnjcenaaDoor.Pl
open Go.RowKit Go.Proofs.YthnifjggnjcenaaDoor.All Go.Proofs.YthnifjggnjcenaaDoorW.PrintWords
set_option linter.unusedVariables false
set_option linter.unusedSimpArgs false

/-! ### the rules' relations -/
def kp (a : S33) : Bool := a.f0 == 1 || (a.f0 == 2 && decide (a.f1 ≥ 1)) || (a.f0 == 3 && decide (a.f1 ≥ 0))
def fit (a b : S33) : Bool := if a.f0 = 1 then true else if a.f0 = b.f0 then (if a.f0 = 2 then Int.tmod b.f1 a.f1 == 0 else decide (a.f1 ≤ b.f1)) else false
def cov (a b : S33) : Bool := kp a && kp b && decide (b.f2 ≤ a.f2) && fit a b
def whyP (a b : S33) (gt : Bool) : Int :=
  if (kp a && b.f0 == 4 && decide (b.f2 < a.f2)) = true then 1
  else if (a.f0 == 4 && b.f0 == 4 && gt) = true then 2
  else if (cov b a && (!cov a b || gt)) = true then 3 else 0

theorem keeps_eq (a : S33) : calcheck_keeps.f a.f0 a.f1 a.f2 = some (kp a) := by
  unfold calcheck_keeps.f kp
  by_cases h1 : a.f0 = 1
  · simp [h1]
  · by_cases h2 : a.f0 = 2
    · simp [h2]
    · by_cases h3 : a.f0 = 3
      · simp [h3]
      · simp [h1, h2, h3]

theorem j0_eq (a b : S33) (ha : kp a = true) (q : Bool) : Ev (fun k => calcheck_covers.j0 k q a.f0 a.f1 a.f2 b.f0 b.f1 b.f2) (!q && fit a b) := by
  refine ev_succ ?_
  simp only [calcheck_covers.j0]
  cases q with
  | true => simpa using ev_some
  | false =>
    simp only [Bool.not_false, Bool.true_and, Bool.false_eq_true, if_false]
    unfold fit
    by_cases h1 : a.f0 = 1
    · simp only [if_pos h1]; exact ev_some
    · by_cases h2 : a.f0 = b.f0
      · by_cases h3 : a.f0 = 2
        · have h4 : a.f1 ≠ 0 := by
            intro h4
            simp [kp, h3, h4] at ha
          simp only [if_neg h1, if_pos h2, if_pos h3, if_neg h4]
          exact ev_some
        · simp only [if_neg h1, if_pos h2, if_neg h3]
          exact ev_some
      · simp only [if_neg h1, if_neg h2]
        exact ev_some

theorem covers_eq (a b : S33) : Ev (fun k => calcheck_covers.f k a.f0 a.f1 a.f2 b.f0 b.f1 b.f2) (cov a b) := by
  simp only [calcheck_covers.f, keeps_eq, Option.bind_some]
  unfold cov
  cases ha : kp a with
  | false =>
    simp only [Bool.false_eq_true, if_false, Bool.false_and]
    refine ev_succ ?_
    simp only [calcheck_covers.j0, if_true]
    exact ev_some
  | true =>
    simp only [if_true, Bool.true_and]
    cases hb : kp b with
    | false =>
      simp only [Bool.false_eq_true, if_false, Bool.false_and]
      refine ev_succ ?_
      simp only [calcheck_covers.j0, if_true]
      exact ev_some
    | true =>
      simp only [if_true, Bool.true_and]
      have h := j0_eq a b ha (decide (a.f2 < b.f2))
      have e : (!decide (a.f2 < b.f2)) = decide (b.f2 ≤ a.f2) := by
        by_cases h : a.f2 < b.f2
        · have h' : ¬ b.f2 ≤ a.f2 := by omega
          simp [h, h']
        · have h' : b.f2 ≤ a.f2 := by omega
          simp [h, h']
      rw [e] at h
      exact h

theorem j1_eq (a b : S33) (i j : Int) (q : Bool) :
    Ev (fun k => calcheck_why.j1 k i j q a.f0 a.f1 a.f2 b.f0 b.f1 b.f2) (if q = true then 2 else if (cov b a && (!cov a b || decide (i > j))) = true then 3 else 0) := by
  refine ev_succ ?_
  simp only [calcheck_why.j1]
  cases q with
  | true => simpa using ev_some
  | false =>
    simp only [Bool.false_eq_true, if_false]
    refine Ev.bind (covers_eq b a) ?_
    cases hc : cov b a with
    | false => simpa using ev_some
    | true =>
      simp only [if_true, Bool.true_and]
      refine Ev.bind (covers_eq a b) ?_
      cases hd : cov a b with
      | false => simpa using ev_some
      | true =>
        by_cases h : i > j
        · simp only [if_true, if_pos h]; simpa [h] using ev_some
        · simp only [if_true, if_neg h]; simpa [h] using ev_some

theorem why0_eq (a b : S33) (i j : Int) (q : Bool) (hq : q = (kp a && b.f0 == 4 && decide (b.f2 < a.f2))) :
    Ev (fun k => calcheck_why.j0 k i j q a.f0 a.f1 a.f2 b.f0 b.f1 b.f2) (whyP a b (decide (i > j))) := by
  refine ev_succ ?_
  simp only [calcheck_why.j0]
  unfold whyP
  rw [← hq]
  cases q with
  | true => simpa using ev_some
  | false =>
    simp only [Bool.false_eq_true, if_false]
    by_cases h1 : a.f0 = 4
    · by_cases h2 : b.f0 = 4
      · simp only [if_pos h1, if_pos h2]
        simpa [h1, h2] using j1_eq a b i j (decide (i > j))
      · simp only [if_pos h1, if_neg h2]
        simpa [h1, h2] using j1_eq a b i j false
    · simp only [if_neg h1]
      simpa [h1] using j1_eq a b i j false

theorem why_eq (l : List S33) (i j : Nat) (hi : i < l.length) (hj : j < l.length) :
    Ev (fun k => calcheck_why.f k l i j) (whyP (l.getD i z33) (l.getD j z33) (decide (j < i))) := by
  have e1 : rd_T33 l i = l.getD i z33 := rfl
  have e2 : rd_T33 l j = l.getD j z33 := rfl
  have hi' : (i : Int) < (l.length : Int) := by omega
  have hj' : (j : Int) < (l.length : Int) := by omega
  have hi0 : (0 : Int) ≤ (i : Int) := by omega
  have hj0 : (0 : Int) ≤ (j : Int) := by omega
  have e3 : decide (j < i) = decide ((i : Int) > (j : Int)) := by
    by_cases h : j < i
    · have : (i : Int) > (j : Int) := by omega
      simp [h, this]
    · have : ¬ (i : Int) > (j : Int) := by omega
      simp [h, this]
  simp only [calcheck_why.f, if_pos hi0, if_pos hj0, if_pos hi', if_pos hj', keeps_eq, Option.bind_some, e1, e2]
  generalize l.getD i z33 = a
  generalize l.getD j z33 = b
  rw [e3]
  cases ha : kp a with
  | false =>
    simp only [Bool.false_eq_true, if_false]
    exact why0_eq a b i j false (by simp [ha])
  | true =>
    simp only [if_true]
    by_cases h2 : b.f0 = 4
    · simp only [if_pos h2]
      exact why0_eq a b i j _ (by simp [ha, h2])
    · simp only [if_neg h2]
      exact why0_eq a b i j false (by simp [ha, h2])

/-! ### the list of clashes -/
def one (l : List S33) (i j : Nat) : List S51 :=
  if i = j then [] else if whyP (l.getD i z33) (l.getD j z33) (decide (j < i)) = 0 then [] else [⟨i, j, whyP (l.getD i z33) (l.getD j z33) (decide (j < i))⟩]
def row (l : List S33) (i n : Nat) : List S51 := (List.range n).flatMap (one l i)
def chk (l : List S33) (m : Nat) : List S51 := (List.range m).flatMap (fun i => row l i l.length)

theorem one_len (l : List S33) (i j : Nat) : (one l i j).length ≤ 1 := by
  unfold one
  split
  · simp
  · split <;> simp
theorem row_succ (l : List S33) (i n : Nat) : row l i (n + 1) = row l i n ++ one l i n := by
  simp [row, List.range_succ]
theorem row_len (l : List S33) (i : Nat) : ∀ n, (row l i n).length ≤ n
  | 0 => by simp [row]
  | n + 1 => by
    rw [row_succ, List.length_append]
    have := row_len l i n
    have := one_len l i n
    omega
theorem chk_succ (l : List S33) (m : Nat) : chk l (m + 1) = chk l m ++ row l m l.length := by
  simp [chk, List.range_succ]
theorem chk_len (l : List S33) : ∀ m, (chk l m).length ≤ m * l.length
  | 0 => by simp [chk]
  | m + 1 => by
    rw [chk_succ, List.length_append]
    have := chk_len l m
    have := row_len l m l.length
    rw [Nat.succ_mul]
    omega

theorem l1_ev (l : List S33) (hl : l.length ≤ 1000) (base : List S51) (hb : base.length ≤ 1000000) (i : Nat) (hi : i < l.length) (r : List S51)
    (h : Ev (fun k => calcheck_Check.l0 k l (base ++ row l i l.length) l.length ((i + 1 : Nat) : Int)) r) :
    ∀ d j : Nat, j + d = l.length → Ev (fun k => calcheck_Check.l1 k l (base ++ row l i j) i l.length i l.length (j : Int)) r
  | 0, j, hj => by
    obtain rfl : j = l.length := by omega
    refine ev_succ ?_
    have h1 : ¬ (l.length : Int) < (l.length : Int) := by omega
    simp only [calcheck_Check.l1, if_neg h1, wrap_succ i (by omega)]
    exact h
  | d + 1, j, hj => by
    have ih := l1_ev l hl base hb i hi r h d (j + 1) (by omega)
    refine ev_succ ?_
    have h1 : (j : Int) < (l.length : Int) := by omega
    simp only [calcheck_Check.l1, if_pos h1, wrap_succ j (by omega)]
    rw [row_succ, ← List.append_assoc] at ih
    by_cases hij : i = j
    · have hij' : (i : Int) = (j : Int) := by omega
      simp only [if_pos hij']
      have e : one l i j = [] := by unfold one; rw [if_pos hij]
      rw [e, List.append_nil] at ih
      exact ih
    · have hij' : ¬ (i : Int) = (j : Int) := by omega
      simp only [if_neg hij']
      refine Ev.bind (why_eq l i j hi (by omega)) ?_
      by_cases hw : whyP (l.getD i z33) (l.getD j z33) (decide (j < i)) = 0
      · simp only [if_pos hw]
        have e : one l i j = [] := by unfold one; rw [if_neg hij, if_pos hw]
        rw [e, List.append_nil] at ih
        exact ih
      · have hlen : (base ++ row l i j).length < 5864062014805 := by
          rw [List.length_append]
          have := row_len l i j
          omega
        simp only [if_neg hw, if_pos hlen]
        have e : one l i j = [⟨i, j, whyP (l.getD i z33) (l.getD j z33) (decide (j < i))⟩] := by unfold one; rw [if_neg hij, if_neg hw]
        rw [e] at ih
        exact ih

theorem l0_ev (l : List S33) (hl : l.length ≤ 1000) : ∀ d i : Nat, i + d = l.length → Ev (fun k => calcheck_Check.l0 k l (chk l i) l.length (i : Int)) (chk l l.length)
  | 0, i, hi => by
    obtain rfl : i = l.length := by omega
    refine ev_succ ?_
    have h1 : ¬ (l.length : Int) < (l.length : Int) := by omega
    simp only [calcheck_Check.l0, if_neg h1]
    exact ev_some
  | d + 1, i, hi => by
    have ih := l0_ev l hl d (i + 1) (by omega)
    refine ev_succ ?_
    have h1 : (i : Int) < (l.length : Int) := by omega
    simp only [calcheck_Check.l0, if_pos h1]
    rw [chk_succ] at ih
    have hb : (chk l i).length ≤ 1000000 := by
      have h2 := chk_len l i
      have h3 : i * l.length ≤ 1000 * 1000 := Nat.mul_le_mul (by omega) hl
      omega
    have := l1_ev l hl (chk l i) hb i (by omega) _ ih l.length 0 (by omega)
    simpa [row] using this

theorem check_ev (l : List S33) (hl : l.length ≤ 1000) : Ev (fun k => calcheck_Check.f k l) (chk l l.length) := by
  simp only [calcheck_Check.f]
  have := l0_ev l hl l.length 0 (by omega)
  simpa [chk] using this

theorem sound_ev (l : List S33) (hl : l.length ≤ 1000) : Ev (fun k => calcheck_Sound.f k l) (decide ((chk l l.length).length = 0)) := by
  simp only [calcheck_Sound.f]
  refine Ev.bind (check_ev l hl) ?_
  have e : (((chk l l.length).length : Int) == 0) = decide ((chk l l.length).length = 0) := by
    rw [Bool.eq_iff_iff]
    simp
  rw [e]
  exact ev_some

theorem awake35_ev : Ev (fun k => erewhilelaw35_awake.f k) true := by
  simp only [erewhilelaw35_awake.f]
  refine Ev.bind (check_ev _ (by simp)) ?_
  have e : chk [(⟨1, 0, 60⟩ : S33), (⟨2, 10, 50⟩ : S33)] [(⟨1, 0, 60⟩ : S33), (⟨2, 10, 50⟩ : S33)].length = [⟨1, 0, 3⟩] := by rfl
  rw [e]
  have e1 : (([⟨1, 0, 3⟩] : List S51).length : Int) = 1 := rfl
  have e2 : (0 : Int) < (1 : Int) := by omega
  have e3 : rd_T51 [⟨1, 0, 3⟩] 0 = ⟨1, 0, 3⟩ := rfl
  simp only [e1, if_true, if_pos e2, e3]
  have e4 : ((1 : Int) == 1 && ((0 : Int) == 0 && ((3 : Int) == 3))) = true := by decide
  simp only [e4, if_true]
  have := sound_ev [] (by simp)
  refine Ev.bind this ?_
  have e5 : decide ((chk [] ([] : List S33).length).length = 0) = true := by decide
  simp only [e5, if_true]
  exact ev_some

/-! ### what is in it -/
theorem mem_one {l : List S33} {i j : Nat} {c : S51} : c ∈ one l i j ↔ i ≠ j ∧ whyP (l.getD i z33) (l.getD j z33) (decide (j < i)) ≠ 0 ∧ c = ⟨i, j, whyP (l.getD i z33) (l.getD j z33) (decide (j < i))⟩ := by
  unfold one
  split
  · rename_i h; simp [h]
  · rename_i h
    split
    · rename_i h'
      exact ⟨fun hc => absurd hc List.not_mem_nil, fun hc => absurd h' hc.2.1⟩
    · rename_i h'
      exact ⟨fun hc => ⟨h, h', List.mem_singleton.1 hc⟩, fun hc => List.mem_singleton.2 hc.2.2⟩
theorem mem_chk {l : List S33} {c : S51} : c ∈ chk l l.length ↔ ∃ i j, i < l.length ∧ j < l.length ∧ i ≠ j ∧ whyP (l.getD i z33) (l.getD j z33) (decide (j < i)) ≠ 0 ∧ c = ⟨i, j, whyP (l.getD i z33) (l.getD j z33) (decide (j < i))⟩ := by
  unfold chk row
  simp only [List.mem_flatMap, List.mem_range, mem_one]
  constructor
  · rintro ⟨i, hi, j, hj, h⟩
    exact ⟨i, j, hi, hj, h⟩
  · rintro ⟨i, j, hi, hj, h⟩
    exact ⟨i, hi, j, hj, h⟩
end Go.Proofs.YthnifjggnjcenaaDoor.Pl

/-! The law CalcheckText in plain Lean: the facts that its walk asks for. Condition: the second parameter is a byte. -/
namespace Go.Proofs.YthnifjggnjcenaaDoor.Pl
open Go.RowKit Go.Proofs.YthnifjggnjcenaaDoor.All Go.Proofs.YthnifjggnjcenaaDoorW.PrintWords
set_option linter.unusedVariables false
set_option linter.unusedSimpArgs false

/-! ### plain bytes -/
theorem both_plain {c : UInt8} (h : isBoth (ch c) = true) : c.toNat < 128 ∧ c ≠ 10 := by
  have h2 : ch c = (c.toNat : Int) := rfl
  have h3 : 48 ≤ ch c ∧ ch c ≤ 122 := by
    simp only [isBoth, isDig, isLet, Bool.or_eq_true, Bool.and_eq_true, decide_eq_true_eq] at h
    omega
  refine ⟨by omega, fun e => ?_⟩
  rw [e] at h3
  exact absurd h3.1 (by decide)
theorem good_plain {t : S46} (h : goodI t) : ∀ c ∈ lst t.f1, c.toNat < 128 ∧ c ≠ 10 := by
  intro c hc
  rcases h with ⟨_, _, _, hl⟩ | ⟨_, n, _, _, hl⟩
  · have h1 := hl c hc
    exact both_plain (by rw [isBoth_or, h1, Bool.or_true])
  · rw [hl] at hc
    exact both_plain (both_text n c hc)
theorem join_plain : ∀ ts : List S46, (∀ t ∈ ts, goodI t) → ∀ c ∈ joinI ts, c.toNat < 128 ∧ c ≠ 10
  | [], _, c, hc => by cases hc
  | [t], h, c, hc => good_plain (h t (.head _)) c hc
  | t :: u :: ts, h, c, hc => by
    rw [joinI] at hc
    rcases List.mem_append.1 hc with hc | hc
    · exact good_plain (h t (.head _)) c hc
    · rcases List.mem_cons.1 hc with rfl | hc
      · exact ⟨by decide, by decide⟩
      · exact join_plain (u :: ts) (fun x hx => h x (.tail _ hx)) c hc
theorem lines_plain (l : List S33) (h : allR l) : ∀ c ∈ l.flatMap lineT, c.toNat < 128 := by
  intro c hc
  obtain ⟨r, hr, hc⟩ := List.mem_flatMap.1 hc
  rw [lineT_join] at hc
  rcases List.mem_append.1 hc with hc | hc
  · exact (join_plain _ (items_good (h r hr)) c hc).1
  · rw [List.mem_singleton.1 hc]
    decide
/-! ### the loose text -/
theorem loose_line (m k : Nat) (R : List UInt8) : ∀ a : List UInt8, (∀ c ∈ a, c ≠ 10) → looseL m k (a ++ 10 :: R) = a ++ 10 :: (if k < m then 32 :: 10 :: looseL m (k + 1) R else looseL m k R)
  | [], _ => by
    rw [List.nil_append, looseL]
    by_cases hk : k < m
    · rw [if_pos ⟨rfl, hk⟩, if_pos hk]; rfl
    · rw [if_neg (fun h => hk h.2), if_neg hk]; rfl
  | c :: a, h => by
    rw [List.cons_append, looseL, if_neg (fun hh => h c (.head _) hh.1), loose_line m k R a (fun x hx => h x (.tail _ hx))]
    rfl
theorem lex_loose (m : Nat) : ∀ (l : List S33) (k a : Nat), allR l → ∃ T, lexT (looseL m k (l.flatMap lineT)) a = .ok T ∧ ∀ out : List S33, out.length + l.length ≤ 16 → runP T ⟨0, 0, 0, 0, out⟩ = .ok ⟨0, 0, 0, 0, out ++ l⟩
  | [], k, a, _ => by
    refine ⟨_, lexT_nil a, fun out _ => ?_⟩
    rw [runP, stepP, if_neg (by simp), if_pos rfl, List.append_nil]
    rfl
  | r :: l, k, a, h => by
    have hr := h r (.head _)
    have hl' : allR l := fun x hx => h x (.tail _ hx)
    have e : looseL m k ((r :: l).flatMap lineT) = joinI (itemsT r) ++ 10 :: (if k < m then 32 :: 10 :: looseL m (k + 1) (l.flatMap lineT) else looseL m k (l.flatMap lineT)) := by
      rw [List.flatMap_cons, lineT_join, List.append_assoc]
      exact loose_line m k _ _ (fun c hc => (join_plain _ (items_good hr) c hc).2)
    rw [e, lex_join 10 (.inr rfl) _ (itemsT r) a (items_ne r hr) (items_good hr), lexT_line 10 _ _ rfl]
    by_cases hk : k < m
    · rw [if_pos hk]
      obtain ⟨T', h5, h6⟩ := lex_loose m l (k + 1) (a + (joinI (itemsT r)).length + 1 + 1 + 1) hl'
      rw [lexT_blank 32 _ _ rfl, lexT_line 10 _ _ rfl, h5]
      have hw : lexT (looseL m k ((r :: l).flatMap lineT)) a = .ok (placeI (itemsT r) a ++ ⟨3, ofL [], 0, ((a + (joinI (itemsT r)).length : Nat) : Int)⟩ :: (⟨3, ofL [], 0, ((a + (joinI (itemsT r)).length + 1 + 1 : Nat) : Int)⟩ :: T')) := by
        rw [e, lex_join 10 (.inr rfl) _ (itemsT r) a (items_ne r hr) (items_good hr), lexT_line 10 _ _ rfl, if_pos hk, lexT_blank 32 _ _ rfl, lexT_line 10 _ _ rfl, h5]
        rfl
      refine ⟨_, rfl, fun out ho => ?_⟩
      simp only [List.length_cons] at ho
      have hrun := run_rule hr (placeI_strip (itemsT r) a) (by simp) (lexT_ending _ _ _ hw) out (by omega)
      refine Eq.trans hrun ?_
      rw [runP, stepP, if_neg (by simp), if_pos rfl]
      simp only
      rw [h6 _ (by simp; omega)]
      simp
    · rw [if_neg hk]
      obtain ⟨T', h5, h6⟩ := lex_loose m l k (a + (joinI (itemsT r)).length + 1) hl'
      rw [h5]
      have hw : lexT (looseL m k ((r :: l).flatMap lineT)) a = .ok (placeI (itemsT r) a ++ ⟨3, ofL [], 0, ((a + (joinI (itemsT r)).length : Nat) : Int)⟩ :: T') := by
        rw [e, lex_join 10 (.inr rfl) _ (itemsT r) a (items_ne r hr) (items_good hr), lexT_line 10 _ _ rfl, if_neg hk, h5]
        rfl
      refine ⟨_, rfl, fun out ho => ?_⟩
      simp only [List.length_cons] at ho
      have hrun := run_rule hr (placeI_strip (itemsT r) a) (by simp) (lexT_ending _ _ _ hw) out (by omega)
      refine Eq.trans hrun ?_
      rw [h6 _ (by simp; omega)]
      simp
theorem loose_len (m : Nat) : ∀ (l : List UInt8) (k : Nat), (looseL m k l).length ≤ 3 * l.length
  | [], k => by simp [looseL]
  | c :: l, k => by
    have h1 := loose_len m l (k + 1)
    have h2 := loose_len m l k
    rw [looseL]
    split <;> simp only [List.length_cons] <;> omega
theorem loose_parse (m : Nat) (l : List S33) (h : allR l) (hl : l.length ≤ 16) : parseS (ofL (looseL m 0 (l.flatMap lineT))) = (l, 0, 0) := by
  obtain ⟨T, h1, h2⟩ := lex_loose m l 0 0 h
  rw [parseS_lst, lst_ofL, h1]
  simp only
  rw [parseC_run, h2 [] (by simp; exact hl)]
  rfl
/-- The facts, with the rounds that they need. -/
structure Facts (l : List S33) (n : Int) : Prop where
  rounds : ∃ k, TextFacts k l n
theorem check_pure (l : List S33) (n : Int) (hn : (Lit.int .u8 n).wf = true) : Facts l n := by
  have hn' : 0 ≤ n ∧ n ≤ 255 := by
    simp [Lit.wf, IntKind.min, IntKind.max, IntKind.signed, IntKind.bits] at hn
    omega
  obtain ⟨K1, E1⟩ := awake35_ev
  obtain ⟨K2, E2⟩ := texts_ev l
  by_cases h0 : (textS l).2 = 0
  · obtain ⟨h1, h2, h3, h4⟩ := text_back l h0
    have hs := text_small l
    have hsl : (l.flatMap lineT).length ≤ 1000 := by rw [h4, size_ofL] at hs; exact hs
    have hlo := loose_len (n.toNat % 20) (l.flatMap lineT) 0
    obtain ⟨K3, E3⟩ := parse_ev (textS l).1 (by omega)
    obtain ⟨K4, E4⟩ := parse_ev (ofL (looseL (n.toNat % 20) 0 (l.flatMap lineT))) (by rw [size_ofL]; omega)
    obtain ⟨K5, E5⟩ := check_ev l (by omega)
    obtain ⟨K6, E6⟩ := sound_ev l (by omega)
    refine ⟨⟨K1 + K2 + K3 + K4 + K5 + K6, E1 _ (by omega), hn'.1, hn'.2, (textS l).1, (textS l).2, E2 _ (by omega), fun _ => ⟨?_, by omega, ?_, ?_, chk l l.length, E5 _ (by omega), E6 _ (by omega), ?_⟩⟩⟩
    · rw [h4]
      intro c hc
      rw [show (ofL (l.flatMap lineT)).data.toList = l.flatMap lineT from lst_ofL _] at hc
      exact lines_plain l h2 c hc
    · have := E3 (K1 + K2 + K3 + K4 + K5 + K6) (by omega)
      rw [h1] at this
      exact this
    · rw [h4, show (ofL (l.flatMap lineT)).data.toList = l.flatMap lineT from lst_ofL _]
      have := E4 (K1 + K2 + K3 + K4 + K5 + K6) (by omega)
      rw [loose_parse _ l h2 h3] at this
      exact this
    · have c2 := chk_len l l.length
      have c3 : l.length * l.length ≤ 16 * 16 := Nat.mul_le_mul h3 h3
      omega
  · exact ⟨⟨K1 + K2, E1 _ (by omega), hn'.1, hn'.2, (textS l).1, (textS l).2, E2 _ (by omega), fun h => absurd h h0⟩⟩
end Go.Proofs.YthnifjggnjcenaaDoor.Pl
