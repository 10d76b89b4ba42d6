/-
  The law BranchDrops's walk: it tells true of every input. Condition: the arguments read as Go's data do.
-/
import Derived.Test.YtaolpniigjmccaaRefI
import Derived.Test.YtaolpniigjmccaaRefN
import Derived.Test.YtaolpniigjmccaaDropsB
import Derived.Test.YtaolpniigjmccaaAlike
namespace Go.Proofs.Ytaolpniigjmccaa.All
open Go.RowKit Go.Proofs.YtaolpniigjmccaaW.PrintWords Go.Proofs.YtaolpniigjmccaaW.PrintLast Go.Proofs.YtaolpniigjmccaaW.PrintMore Go.Proofs.Ytaolpniigjmccaa.Wd
set_option linter.unusedVariables false
set_option linter.unusedSimpArgs false
private theorem ym (motive : Option Value → Sort _) (h1 : (b : Bool) → motive (some (.bool b))) (h2 : (x : Option Value) → motive x) : Go.yielded.match_1 motive (some undef) h1 h2 = h2 (some undef) := rfl
attribute [local go_sem, local simp] ym
/-- Numbers in a row made after block b, for good. -/
def RdU (b : Nat) (w : World) (A : Option Addr) (xs : List Int) : Prop := xs ≠ [] → ∃ blk cs, A = some ⟨blk, 0, none⟩ ∧ b < blk ∧ w.heap[blk]? = some (.cells cs 23) ∧ ∀ (j : Nat) (u : Value), (xs.map (Value.int .u64))[j]? = some u → cs[j]? = some u
theorem RdU.below {b : Nat} {w w2 : World} {A : Option Addr} {xs : List Int} (h : RdU b w A xs) (hb : Below w.heap.size w w2) : RdU b w2 A xs := fun hn => by
  obtain ⟨blk, cs, h1, h2, h3, h4⟩ := h hn
  exact ⟨blk, cs, h1, h2, (hb.block blk (Array.getElem?_eq_some_iff.1 h3).1).trans h3, h4⟩
theorem RdU.chg {b : Nat} {w w2 : World} {A : Option Addr} {xs : List Int} (h : RdU b w A xs) (hb : Chg (· = b) w w2) : RdU b w2 A xs := fun hn => by
  obtain ⟨blk, cs, h1, h2, h3, h4⟩ := h hn
  exact ⟨blk, cs, h1, h2, hb.old h3 (by show blk ≠ b; omega), h4⟩
theorem RdU.reads {b : Nat} {w : World} {A : Option Addr} {xs : List Int} (h : RdU b w A xs) : Reads w w.heap.size 1 A xs.length (xs.map (Value.int .u64)) := by
  refine ⟨by simp, fun h0 => ?_⟩
  obtain ⟨blk, cs, h1, h2, h3, h4⟩ := h (fun e => by rw [e] at h0; exact absurd h0 (Nat.lt_irrefl _))
  refine ⟨_, h1, (Array.getElem?_eq_some_iff.1 h3).1, fun j u hu => ?_⟩
  have e : Addr.add ⟨blk, 0, none⟩ j = ⟨blk, j, none⟩ := by
    unfold Addr.add
    split
    · subst_vars; rfl
    · simp
  rw [e, cell_of_row w blk j cs _ (0, 0) h3]
  exact h4 _ _ hu
theorem RdU.own {b base : Nat} {w : World} {A : Option Addr} {n c : Nat} {xs : List Int} (h : w.ownsRow base 23 1 (.slice A n c) n (xs.map (Value.int .u64))) (hn : n = xs.length) (hb : b < base) : RdU b w A xs := fun hne => by
  rcases h.2 with ⟨_, rfl⟩ | ⟨g, cap, cur, hv, hg, hh, hc, _, hs, ht⟩
  · exact absurd (List.eq_nil_of_length_eq_zero hn.symm) hne
  · have hA : A = some ⟨g, 0, none⟩ := by injection hv
    refine ⟨g, cur, hA, by omega, hh, fun j u hu => ?_⟩
    rw [← ht, List.getElem?_take] at hu
    split at hu
    · simpa using hu
    · cases hu
theorem RdU.at_ {b : Nat} {w : World} {A : Option Addr} {xs : List Int} (h : RdU b w A xs) {k : Nat} (hk : k < xs.length) : ∃ blk, A = some ⟨blk, 0, none⟩ ∧ w.cell? { block := blk, off := k } = some (.int .u64 xs[k]) := by
  obtain ⟨blk, cs, h1, h2, h3, h4⟩ := h (fun e => by rw [e] at hk; exact absurd hk (Nat.not_lt_zero _))
  exact ⟨blk, h1, (cell_of_row w blk k cs _ (0, 0) h3).trans (h4 _ _ (by rw [List.getElem?_map, List.getElem?_eq_getElem hk]; rfl))⟩
theorem comp_len (zs : List Int) : (Lib.compact zs).length ≤ zs.length := by
  have : ∀ (d : Array Int) m, (Lib.compactUpTo d m).length ≤ m := fun d m => by
    induction m with
    | zero => simp [Lib.compactUpTo]
    | succ m ih =>
      rw [Lib.compactUpTo_succ, List.length_append]
      split
      · simpa using ih
      · simp; omega
  exact this _ _
theorem bases_len (F : List Tw) : (basesF F).length ≤ 16 := by
  refine Nat.le_trans (comp_len _) ?_
  rw [List.length_mergeSort]
  exact Nat.le_trans (baseL_len _ _) (aliveL_len F 16)
theorem kids_le (F : List Tw) (hF : F.length = 16) (x : Int) : kidsF F x ≤ 16 := by
  unfold kidsF
  split
  · exact Nat.le_trans List.countP_le_length (by omega)
  · omega
/-- What the law keeps while it plays the acts. -/
structure St1 (w wr : World) (b g g0 : Nat) (F : List Tw) (x : Ac) : Prop where
  two : Two wr b g F
  arg : Arg wr g0 x
  bel : Below w.heap.size w wr
  lob : w.heap.size ≤ b
  log : w.heap.size ≤ g
  ab : g0 ≠ b
  ag : g0 ≠ g
theorem St1.below {w wr w2 : World} {b g g0 : Nat} {F : List Tw} {x : Ac} (h : St1 w wr b g g0 F x) (hb : Below wr.heap.size wr w2) : St1 w w2 b g g0 F x :=
  ⟨h.two.below hb, h.arg.below hb, h.bel.trans (hb.mono h.bel.size), h.lob, h.log, h.ab, h.ag⟩
theorem St1.chg {w wr w2 : World} {b g g0 : Nat} {F F2 : List Tw} {x : Ac} (h : St1 w wr b g g0 F x) (hc : Chg (fun q => q = b ∨ q = g) wr w2) (ht : Two w2 b g F2) : St1 w w2 b g g0 F2 x :=
  ⟨ht, hc.old h.arg (fun e => e.elim h.ab h.ag), hc.below h.bel h.bel.size (fun k e => e.elim (fun e => e ▸ h.lob) (fun e => e ▸ h.log)), h.lob, h.log, h.ab, h.ag⟩
/-- Behind the acts: the forest may go on alone, the document's stays, so do the bases that were. -/
structure St2 (w wr : World) (b g g0 : Nat) (F G : List Tw) (x : Ac) (A8 : Option Addr) : Prop where
  f : At wr b 69 F
  xs : ∃ A c, XAt wr g A c (refL G)
  arg : Arg wr g0 x
  r : RdU b wr A8 (basesF G)
  bel : Below w.heap.size w wr
  lob : w.heap.size ≤ b
  ab : g0 ≠ b
theorem St2.below {w wr w2 : World} {b g g0 : Nat} {F G : List Tw} {x : Ac} {A8 : Option Addr} (h : St2 w wr b g g0 F G x A8) (hb : Below wr.heap.size wr w2) : St2 w w2 b g g0 F G x A8 :=
  ⟨h.f.below hb, let ⟨A, c, hx⟩ := h.xs; ⟨A, c, hx.below hb⟩, h.arg.below hb, h.r.below hb, h.bel.trans (hb.mono h.bel.size), h.lob, h.ab⟩
theorem St2.chg {w wr w2 : World} {b g g0 : Nat} {F G F2 : List Tw} {x : Ac} {A8 : Option Addr} (h : St2 w wr b g g0 F G x A8) (hc : Chg (· = b) wr w2) (hf : At w2 b 69 F2) : St2 w w2 b g g0 F2 G x A8 :=
  ⟨hf, let ⟨A, c, hx⟩ := h.xs; ⟨A, c, hx.forest h.f hc⟩, h.arg.chg hc h.ab, h.r.chg hc, chg_below h.bel hc h.lob, h.lob, h.ab⟩
theorem St1.done {w wr : World} {b g g0 n c : Nat} {F : List Tw} {x : Ac} {A8 : Option Addr} {base : Nat} (h : St1 w wr b g g0 F x) (ho : wr.ownsRow base 23 1 (.slice A8 n c) n ((basesF F).map (Value.int .u64))) (hn : n = (basesF F).length) (hb : b < base) : St2 w wr b g g0 F F x A8 :=
  ⟨h.two.f, h.two.x, h.arg, RdU.own ho hn hb, h.bel, h.lob, h.ab⟩
theorem St2.alike {w wr : World} {b g g0 : Nat} {F : List Tw} {x : Ac} {A8 : Option Addr} (h : St2 w wr b g g0 F F x A8) (ok : Ok F) (id m : Int) :
    Calls Try.prog 22 #[.pointer (some ⟨b, 0, none⟩), .pointer (some ⟨g, 0, none⟩), .int .i64 id, .int .u64 m] wr fun e w' => e = .returned (.bool true) ∧ Below wr.heap.size wr w' :=
  let ⟨A, c, hx⟩ := h.xs; alike_is ok h.f hx id m
/-- Is a number among the first ones of a row? -/
def inB (B : List Int) (x : Int) (k : Nat) : Bool := (B.take k).any fun y => y == x
theorem inB_succ {B : List Int} {x : Int} {k : Nat} (h : k < B.length) : inB B x (k + 1) = (inB B x k || B[k] == x) := by
  unfold inB
  rw [List.take_succ_eq_append_getElem h, List.any_append]
  simp
theorem inB_all {B : List Int} {x : Int} (h : x ∈ B) : inB B x B.length = true := by
  unfold inB
  rw [List.take_length, List.any_eq_true]
  exact ⟨x, h, by simp⟩
set_option maxRecDepth 100000 in
set_option maxHeartbeats 2000000 in
theorem drops_calls (A0 : Option Addr) (c0 : Nat) (l : List Ac) (x : Ac) (w : World) (hr : Kd.C kAc w A0 l.length l) (hwf : ∀ a ∈ l, ActWf a) (hx : ActWf x) (hl30 : l.length ≤ 30) :
    Calls Try.prog 6 #[.slice A0 l.length c0, .agg #[.bool x.d, .int .i64 x.id, .int .i64 x.p, .int .u64 x.b, .int .u64 x.n]] w fun e w' => e = .returned (.bool true) ∧ Below w.heap.size w w' := by
  have HR := Lib.hid hr
  have HWF := Lib.hid hwf
  clear hr hwf
  have hll : ¬ (30 < l.length) := by omega
  have hdl : decide ((30 : Int) < (l.length : Int)) = false := decide_eq_false (by omega)
  go_enter Try.func6, Try.ntmps6
  go_upto_region 5 with (first
    | (go_at_call 10; refine (awake_calls _).mono ?_; rintro e w1 ⟨rfl, hb1⟩; have hg1 := (show Arg _ _ x from heap_alloc_new w _).below hb1; replace hg1 := Lib.hid hg1; replace hb1 := Lib.hid hb1))
  have hB1 := Lib.hid (below_alloc (Below.refl _ w) _ |>.trans (hb1.out.mono (Below.alloc (Below.refl _ _) (Nat.le_refl _) _).size))
  clear hb1
  obtain ⟨g0, hg0⟩ : ∃ g, w.heap.size = g := ⟨_, rfl⟩
  have HG0 := Lib.hid (show g0 < w1.heap.size by have := hg1.out.lt; omega)
  have HGL := Lib.hid (show w.heap.size ≤ g0 by omega)
  rw [hg0] at hg1
  rw [hg0]
  clear hg0
  go_upto_region 6 with (go_at_call 11; refine (new_calls _).mono ?_; rintro e w2 ⟨rfl, hA2, hb2⟩; have HI := Lib.hid (St1.mk (w := w) (x := x) (Two.mk (hA2.below (below_alloc (Below.refl _ _) (.cells #[.slice none 0 0] 47))) ⟨none, 0, xat_new (heap_alloc_new w2 _)⟩) ((hg1.out.below hb2).below (below_alloc (Below.refl _ _) _)) ((hB1.out.trans (hb2.mono hB1.out.size)).trans (Below.mono (below_alloc (Below.refl _ _) _) (Nat.le_trans hB1.out.size hb2.size))) hB1.out.size (Nat.le_trans hB1.out.size hb2.size) (Nat.ne_of_lt HG0.out) (Nat.ne_of_lt (Nat.lt_of_lt_of_le HG0.out hb2.size))); clear hA2 hb2)
  clear hB1 hg1 HG0 HGL
  obtain ⟨b, hb⟩ : ∃ b, w1.heap.size = b := ⟨_, rfl⟩
  obtain ⟨g, hg⟩ : ∃ g, w2.heap.size = g := ⟨_, rfl⟩
  rw [hb, hg] at HI
  rw [hb, hg]
  clear hb hg
  go_wp2
  go_loopw [7] (fun v7 wr => ∃ k : Nat, v7 = .int .i64 k ∧ k ≤ l.length ∧ Hid (St1 w wr b g g0 (playF newF (l.take k)) x)) (fun v7 _ => l.length - (intOf v7).toNat)
  case atStart => exact ⟨0, rfl, Nat.zero_le _, HI⟩
  case round =>
    clear HI
    obtain ⟨k, rfl, hk, HI⟩ := hrel
    have OK := Lib.hid (ok_take (fun a ha => (wf_u64 (HWF.out a ha).2.2.2.2).2) k)
    by_cases hlt : k < l.length
    · obtain ⟨ad, rfl, hA⟩ := act_at HR.out HI.out.bel hlt
      obtain ⟨c0, c1, c2, c3, c4⟩ := hA
      have HP := Lib.hid (play_take hlt newF)
      have hk1 := Lib.hid (show k + 1 ≤ l.length by omega)
      generalize playF newF (l.take k) = F at *
      generalize l[k] = y at *
      go_wp2_with (go_at_call 17; refine (do_is OK.out HI.out.two y).mono ?_; rintro e w3 ⟨kk, rfl, ht, hc⟩; replace HI := Lib.hid (HI.out.chg hc ht); clear ht hc)
      go_roundw
      case rel => exact ⟨k + 1, by go_num, hk1.out, by rw [HP.out]; exact HI⟩
      case measure => simp [intOf]; omega
    · have hkl : k = l.length := by omega
      subst hkl
      clear HR HWF
      generalize playF newF (l.take l.length) = F at *
      have hxn := Lib.hid (wf_u64 hx.2.2.2.2).2
      clear hx
      have BC := Lib.hid (fun (W : World) (h : At W b 69 F) => bases_calls b F W h)
      have KC := Lib.hid (fun (W : World) (h : At W b 69 F) => kids_calls F b x.p W h)
      have BL := Lib.hid (bases_len F)
      go_upto_region 11 with (go_at_call 18; refine (BC.out _ HI.out.two.f).mono ?_; rintro e w3 ⟨v3, rfl, ho3, hb3⟩; obtain ⟨A8, c8, rfl⟩ := own_slice ho3; have HS := Lib.hid ((HI.out.below hb3).done ho3 rfl HI.out.two.f.lt); clear ho3 hb3 HI)
      have hcl := HS.out.arg.cells
      obtain ⟨q0, q1, q2, q3, q4⟩ := hcl
      go_upto_region 12 with (go_at_call 19; refine (KC.out _ HS.out.f).mono ?_; rintro e w4 ⟨rfl, hb4⟩; replace HS := Lib.hid (HS.out.below hb4); clear hb4 q0 q1 q2 q3 q4; obtain ⟨q0, q1, q2, q3, q4⟩ := HS.out.arg.cells)
      obtain ⟨fc, hfc⟩ : ∃ c, forkC F x.id x.p x.b x.n = c := ⟨_, rfl⟩
      by_cases hz : fc = 0
      · subst hz
        have hf := forked_of hfc
        have hb := forked_base OK.out hf
        have OK2 := Lib.hid (ok_fork OK.out (x := x.id) (p := x.p) (b := x.b) (n := x.n) hxn.out)
        have FC := Lib.hid (fun (W : World) (h : At W b 69 F) => fork_calls' h hfc rfl)
        have hdp := drop_parent OK.out hf
        obtain ⟨dc, hdc⟩ : ∃ c, (if x.p = 0 then (7 : Int) else 12) = c := ⟨_, rfl⟩
        rw [hdc] at hdp
        have hd : dc = 7 ∨ dc = 12 := by split at hdc <;> omega
        have DC := Lib.hid (fun (W : World) (h : At W b 69 (forkF F x.id x.p x.b x.n)) => drop_calls' h hdp (drop_no (by rw [hdp]; omega)))
        have DC2 := Lib.hid (fun (W : World) (h : At W b 69 (forkF F x.id x.p x.b x.n)) => drop_calls' h (drop_own OK.out hf) (drop_back OK.out hf))
        have KC2 := fun (W : World) (h : At W b 69 (forkF F x.id x.p x.b x.n)) => kids_calls _ b x.p W h
        rw [kids_more OK.out hf] at KC2
        replace KC2 := Lib.hid KC2
        have AC := fun (W : World) (h : At W b 69 F) => alive_calls F b x.id W h
        rw [idle_alive hf.lo hf.hi hf.idle] at AC
        replace AC := Lib.hid AC
        have BC2 := Lib.hid (fun (W : World) (h : At W b 69 (forkF F x.id x.p x.b x.n)) => bases_calls b _ W h)
        have hK := kids_le F OK.out.len x.p
        have HIN := Lib.hid (inB_all hb)
        have BL2 := bases_len (forkF F x.id x.p x.b x.n)
        have AL := Lib.hid (fun (wr : World) (A8 : Option Addr) (h : St2 w wr b g g0 F F x A8) => h.alike OK.out)
        clear hfc hf hb hdp hdc
        generalize forkF F x.id x.p x.b x.n = F2 at *
        generalize kidsF F x.p = K at *
        go_upto_region 15 with (go_at_call 13; refine (FC.out _ HS.out.f).mono ?_; rintro e w5 ⟨rfl, hA5, hc5⟩; replace HS := Lib.hid (HS.out.chg hc5 hA5); clear hA5 hc5 q0 q1 q2 q3 q4)
        go_upto_region 16 with (go_at_call 18; refine (BC2.out _ HS.out.f).mono ?_; rintro e w6 ⟨v6, rfl, ho6, hb6⟩; obtain ⟨A6, c6, rfl⟩ := own_slice ho6; have hR6 := Lib.hid (RdU.own (b := b) ho6 rfl HS.out.f.lt); replace HS := Lib.hid (HS.out.below hb6); clear ho6 hb6)
        generalize basesF F2 = B2 at *
        go_wp2
        go_loopw [10, 12] (fun v10 v12 wr => ∃ k : Nat, v12 = .int .i64 k ∧ k ≤ B2.length ∧ v10 = .bool (inB B2 x.b k) ∧ Hid (St2 w wr b g g0 F2 F x A8) ∧ Hid (RdU b wr A6 B2)) (fun _ v12 _ => B2.length - (intOf v12).toNat)
        case atStart => exact ⟨0, rfl, Nat.zero_le _, rfl, HS, hR6⟩
        case round =>
          clear HS hR6
          obtain ⟨k, rfl, hk, rfl, HS, hR6⟩ := hrel
          obtain ⟨q0, q1, q2, q3, q4⟩ := HS.out.arg.cells
          by_cases hlt : k < B2.length
          · obtain ⟨blk, rfl, e0⟩ := hR6.out.at_ hlt
            have HSS := Lib.hid (inB_succ (x := x.b) hlt)
            have hk1 := Lib.hid (show k + 1 ≤ B2.length by omega)
            generalize B2[k] = y at *
            cases ht : inB B2 x.b k with
            | true =>
              rw [ht] at HSS
              go_upto_region 19 with fail
              go_quiet (fail)
              go_wp2
              go_roundw
              case rel => exact ⟨k + 1, by go_num, hk1.out, by rw [HSS.out]; rfl, Lib.hid (HS.out.below (pw_below_drewN (Below.refl _ _) _)), Lib.hid (hR6.out.below (pw_below_drewN (Below.refl _ _) _))⟩
              case measure => simp [intOf]; omega
            | false =>
              rw [ht] at HSS
              go_upto_region 19 with fail
              go_quiet (fail)
              go_wp2
              go_roundw
              case rel => exact ⟨k + 1, by go_num, hk1.out, by rw [HSS.out]; rfl, Lib.hid (HS.out.below (pw_below_drewN (Below.refl _ _) _)), Lib.hid (hR6.out.below (pw_below_drewN (Below.refl _ _) _))⟩
              case measure => simp [intOf]; omega
          · have hkl : k = B2.length := by omega
            subst hkl
            rw [HIN.out]
            clear hR6
            rcases hd with rfl | rfl
            all_goals
              go_upto_region 21 with (go_at_call 12; refine (DC.out _ HS.out.f).mono ?_; rintro e w7 ⟨rfl, hA7, hc7⟩; replace HS := Lib.hid (HS.out.chg hc7 hA7); clear hA7 hc7 q0 q1 q2 q3 q4; obtain ⟨q0, q1, q2, q3, q4⟩ := HS.out.arg.cells)
              go_upto_region 23 with (first
                | (go_at_call 19; refine (KC2.out _ HS.out.f).mono ?_; rintro e w8 ⟨rfl, hb8⟩; replace HS := Lib.hid (HS.out.below hb8); clear hb8 q0 q1 q2 q3 q4; obtain ⟨q0, q1, q2, q3, q4⟩ := HS.out.arg.cells)
                | (go_at_call 12; refine (DC2.out _ HS.out.f).mono ?_; rintro e w9 ⟨rfl, hA9, hc9⟩; replace HS := Lib.hid (HS.out.chg hc9 hA9); clear hA9 hc9 q0 q1 q2 q3 q4; obtain ⟨q0, q1, q2, q3, q4⟩ := HS.out.arg.cells))
              go_wp2_with (first
                | (go_at_call 18; refine (BC.out _ HS.out.f).mono ?_; rintro e w10 ⟨v10, rfl, ho10, hb10⟩; obtain ⟨A10, c10, rfl⟩ := own_slice ho10; have hR10 := Lib.hid (RdU.own (b := b) ho10 rfl HS.out.f.lt); replace HS := Lib.hid (HS.out.below hb10); clear ho10 hb10)
                | (go_at_call 20; refine (nums_calls (basesF F) hR10.out.reads HS.out.r.reads (by have := BL.out; omega)).mono ?_; rintro e w11 ⟨rfl, hb11⟩; replace HS := Lib.hid (HS.out.below hb11); clear hb11 q0 q1 q2 q3 q4; obtain ⟨q0, q1, q2, q3, q4⟩ := HS.out.arg.cells)
                | (go_at_call 19; refine (KC.out _ HS.out.f).mono ?_; rintro e w12 ⟨rfl, hb12⟩; replace HS := Lib.hid (HS.out.below hb12); clear hb12 q0 q1 q2 q3 q4; obtain ⟨q0, q1, q2, q3, q4⟩ := HS.out.arg.cells)
                | (go_at_call 21; refine (AC.out _ HS.out.f).mono ?_; rintro e w' ⟨rfl, rfl⟩)
                | (go_at_call 22; refine (AL.out _ _ HS.out _ _).mono ?_; rintro e w13 ⟨rfl, hb13⟩; replace HS := Lib.hid (HS.out.below hb13); clear hb13 q0 q1 q2 q3 q4; obtain ⟨q0, q1, q2, q3, q4⟩ := HS.out.arg.cells))
              go_ret
              exact ⟨rfl, HS.out.bel⟩
      · have hcz : (fc != 0) = true := by simpa using hz
        have hcz2 : (fc == 0) = false := by simpa using hz
        have FC := Lib.hid (fun (W : World) (h : At W b 69 F) => fork_calls' h hfc (fork_no (by rw [hfc]; exact hz)))
        clear hfc hz
        have hK := kids_le F OK.out.len x.p
        generalize kidsF F x.p = K at *
        go_wp2_with (first
          | (go_at_call 13; refine (FC.out _ HS.out.f).mono ?_; rintro e w5 ⟨rfl, hA5, hc5⟩; replace HS := Lib.hid (HS.out.chg hc5 hA5); clear hA5 hc5 q0 q1 q2 q3 q4; obtain ⟨q0, q1, q2, q3, q4⟩ := HS.out.arg.cells)
          | (go_at_call 18; refine (BC.out _ HS.out.f).mono ?_; rintro e w6 ⟨v6, rfl, ho6, hb6⟩; obtain ⟨A6, c6, rfl⟩ := own_slice ho6; have hR6 := Lib.hid (RdU.own (b := b) ho6 rfl HS.out.f.lt); replace HS := Lib.hid (HS.out.below hb6); clear ho6 hb6)
          | (go_at_call 20; refine (nums_calls (basesF F) hR6.out.reads HS.out.r.reads (by have := BL.out; omega)).mono ?_; rintro e w7 ⟨rfl, hb7⟩; replace HS := Lib.hid (HS.out.below hb7); clear hb7 q0 q1 q2 q3 q4; obtain ⟨q0, q1, q2, q3, q4⟩ := HS.out.arg.cells)
          | (go_at_call 19; refine (KC.out _ HS.out.f).mono ?_; rintro e w8 ⟨rfl, hb8⟩; replace HS := Lib.hid (HS.out.below hb8); clear hb8))
        go_ret
        exact ⟨rfl, HS.out.bel⟩
set_option maxRecDepth 100000 in
theorem drops_skip (A0 : Option Addr) (c0 : Nat) (n : Nat) (x : Ac) (w : World) (h : 30 < n) :
    Calls Try.prog 6 #[.slice A0 n c0, .agg #[.bool x.d, .int .i64 x.id, .int .i64 x.p, .int .u64 x.b, .int .u64 x.n]] w fun e w' => e = .returned (.bool true) ∧ Below w.heap.size w w' := by
  go_enter Try.func6, Try.ntmps6
  go_wp2_with (go_at_call 10; refine (awake_calls _).mono ?_; rintro e w1 ⟨rfl, hb1⟩; have hB1 := Lib.hid (below_alloc (Below.refl _ w) _ |>.trans (hb1.mono (Below.alloc (Below.refl _ _) (Nat.le_refl _) _).size)); clear hb1)
  go_ret
  exact ⟨rfl, Hid.out ‹_›⟩
theorem drops_any (A0 : Option Addr) (c0 : Nat) (l : List Ac) (x : Ac) (w : World) (hr : Kd.C kAc w A0 l.length l) (hwf : ∀ a ∈ l, ActWf a) (hx : ActWf x) :
    Calls Try.prog 6 #[.slice A0 l.length c0, .agg #[.bool x.d, .int .i64 x.id, .int .i64 x.p, .int .u64 x.b, .int .u64 x.n]] w fun e w' => e = .returned (.bool true) ∧ Below w.heap.size w w' := by
  by_cases h : l.length ≤ 30
  · exact drops_calls A0 c0 l x w hr hwf hx h
  · exact drops_skip A0 c0 l.length x w (by omega)
end Go.Proofs.Ytaolpniigjmccaa.All
