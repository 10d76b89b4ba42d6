/-
  The example that every law of chapter 29 asks first is as the document tells; the laws' arguments, as the rows read them. No condition.
-/
import Derived.Test.YtaolpniigjmccaaForest
import Derived.Test.YtaolpniigjmccaaGrow
import Derived.Test.YtaolpniigjmccaaOpen
namespace Go.Proofs.Ytaolpniigjmccaa.All
open Go.RowKit Go.Proofs.YtaolpniigjmccaaW.PrintWords Go.Proofs.YtaolpniigjmccaaW.PrintLast Go.Proofs.YtaolpniigjmccaaW.PrintMore Go.Proofs.Ytaolpniigjmccaa.Wd
set_option linter.unusedVariables false
set_option linter.unusedSimpArgs false

/-- The forest of the example. -/
structure Wake (F0 F1 F2 : List Tw) : Prop where
  new : newF = F0
  f1 : forkF F0 1 0 5 7 = F1
  f2 : forkF F1 2 1 9 12 = F2
  c1 : forkC F0 1 0 5 7 = 0
  c2 : forkC F1 2 1 9 12 = 0
  c3 : dropC F2 1 = 12
  ok : Ok F2
  al : aliveF F2 2 = true
  le : (tw F2 2).n ≤ 20
  ln : lineF F2 2 20 = [(2, 12, 20), (1, 7, 9), (0, 0, 5)]
theorem wake : Wake newF (forkF newF 1 0 5 7) (forkF (forkF newF 1 0 5 7) 2 1 9 12) :=
  ⟨rfl, rfl, rfl, rfl, rfl, rfl, ok_fork (ok_fork ok_new (by decide)) (by decide), rfl, by decide, rfl⟩
theorem fork_calls' {F F' : List Tw} {b : Nat} {id p base num c : Int} {w : World} (h : At w b 69 F) (hc : forkC F id p base num = c) (hf : forkF F id p base num = F') :
    Calls Try.prog 13 #[.pointer (some ⟨b, 0, none⟩), .int .i64 id, .int .i64 p, .int .u64 base, .int .u64 num] w fun e w' => e = .returned (.int .i64 c) ∧ At w' b 69 F' ∧ Chg (· = b) w w' := by
  subst hc hf
  exact fork_calls F b id p base num w h
theorem drop_calls' {F F' : List Tw} {b : Nat} {id c : Int} {w : World} (h : At w b 69 F) (hc : dropC F id = c) (hf : dropF F id = F') :
    Calls Try.prog 12 #[.pointer (some ⟨b, 0, none⟩), .int .i64 id] w fun e w' => e = .returned (.int .i64 c) ∧ At w' b 69 F' ∧ Chg (· = b) w w' := by
  subst hc hf
  exact drop_calls F b id w h
theorem new_calls' {F : List Tw} (hf : newF = F) (w : World) : Calls Try.prog 11 #[] w fun e w' => e = .returned (.pointer (some ⟨w.heap.size, 0, none⟩)) ∧ At w' w.heap.size 69 F ∧ Below w.heap.size w w' := by
  subst hf
  exact new_calls w
theorem line_calls' {F : List Tw} {b : Nat} {id m : Int} {L : List St} {w : World} (h : At w b 69 F) (ok : Ok F) (ha : aliveF F id = true) (hm : (tw F id).n ≤ m) (hl : lineF F id m = L) :
    Calls Try.prog 14 #[.pointer (some ⟨b, 0, none⟩), .int .i64 id, .int .u64 m] w fun e w' => ∃ blk cap, e = .returned (.tuple #[.slice (some ⟨blk, 0, none⟩) L.length cap, .int .i64 0]) ∧ w.heap.size ≤ blk ∧ Sts w' blk L ∧ Below w.heap.size w w' := by
  subst hl
  exact line_yes F ok b id m w h ha hm
theorem chg_below {B b : Nat} {w w1 w2 : World} (h : Below B w w1) (c : Chg (· = b) w1 w2) (hb : B ≤ b) (hB : B ≤ w.heap.size := by exact Nat.le_refl _) : Below B w w2 :=
  c.below h (Nat.le_trans hB h.size) (fun k hk => by have : k = b := hk; omega)
set_option maxRecDepth 100000 in
set_option maxHeartbeats 1000000 in
theorem awake_aux (F0 F1 F2 : List Tw) (k : Wake F0 F1 F2) (w : World) : Calls Try.prog 10 #[] w fun e w' => e = .returned (.bool true) ∧ Below w.heap.size w w' := by
  go_enter Try.func10, Try.ntmps10
  go_upto_region 2 with (go_at_call 11; refine (new_calls' k.new _).mono ?_; rintro e w1 ⟨rfl, hA1, hb1⟩; replace hA1 := Lib.hid hA1; replace hb1 := Lib.hid hb1)
  go_upto_region 3 with (first
    | ((with_reducible refine (fork_calls' hA1.out k.c1 k.f1).mono ?_); rintro e w2 ⟨rfl, hA2, hc2⟩; replace hA2 := Lib.hid hA2; replace hc2 := Lib.hid hc2)
    | ((with_reducible refine (fork_calls' hA2.out k.c2 k.f2).mono ?_); rintro e w3 ⟨rfl, hA3, hc3⟩; replace hA3 := Lib.hid hA3; replace hc3 := Lib.hid hc3))
  go_upto_region 4 with ((with_reducible refine (line_calls' hA3.out k.ok k.al k.le k.ln).mono ?_); rintro e w4 ⟨blk, cap, rfl, hk, hs, hb4⟩; replace hs := Lib.hid hs; replace hb4 := Lib.hid hb4; replace hk := Lib.hid hk)
  have HW := hA3.out.below hb4.out
  obtain ⟨e0, e1, e2⟩ := hs.out.cell (i := 1) (by decide)
  replace HW := Lib.hid HW
  go_wp2_with ((with_reducible refine (drop_calls' HW.out k.c3 rfl).mono ?_); rintro e w5 ⟨rfl, hA5, hc5⟩; replace hA5 := Lib.hid hA5; replace hc5 := Lib.hid hc5)
  go_ret
  exact ⟨rfl, chg_below (chg_below (chg_below hb1.out hc2.out (Nat.le_refl _)) hc3.out (Nat.le_refl _) |>.trans (hb4.out.mono (Nat.le_trans hb1.out.size (Nat.le_trans hc2.out.size hc3.out.size)))) hc5.out (Nat.le_refl _)⟩
theorem awake_calls (w : World) : Calls Try.prog 10 #[] w fun e w' => e = .returned (.bool true) ∧ Below w.heap.size w w' := awake_aux _ _ _ wake w

/-! ### a list of acts that came in -/
def kAc : Kd Ac := Kd.iso (Kd.pair Kd.bool (Kd.pair (Kd.int .i64) (Kd.pair (Kd.int .i64) (Kd.pair (Kd.int .u64) (Kd.int .u64))))) fun a => (a.d, a.id, a.p, a.b, a.n)
def za : Ac := ⟨false, 0, 0, 0, 0⟩
theorem kAc_cells {w : World} {a : Ac} {cs : List Value} (h : kAc.K w a cs) : cs = [.bool a.d, .int .i64 a.id, .int .i64 a.p, .int .u64 a.b, .int .u64 a.n] := by
  obtain ⟨c0, c1, rfl, h0, c2, c3, rfl, h2, c4, c5, rfl, h4, c6, c7, rfl, h6, h7⟩ := h
  have h0 : c0 = _ := h0
  have h2 : c2 = _ := h2
  have h4 : c4 = _ := h4
  have h6 : c6 = _ := h6
  have h7 : c7 = _ := h7
  rw [h0, h2, h4, h6, h7]
  rfl
structure ActAt (w : World) (ad : Addr) (i : Nat) (a : Ac) : Prop where
  c0 : w.cell? (ad.add (i * 5)) = some (.bool a.d)
  c1 : w.cell? { block := (ad.add (i * 5)).block, off := (ad.add (i * 5)).off + 1 } = some (.int .i64 a.id)
  c2 : w.cell? { block := (ad.add (i * 5)).block, off := (ad.add (i * 5)).off + 2 } = some (.int .i64 a.p)
  c3 : w.cell? { block := (ad.add (i * 5)).block, off := (ad.add (i * 5)).off + 3 } = some (.int .u64 a.b)
  c4 : w.cell? { block := (ad.add (i * 5)).block, off := (ad.add (i * 5)).off + 4 } = some (.int .u64 a.n)
theorem act_at {w w' : World} {A : Option Addr} {l : List Ac} (h : Kd.C kAc w A l.length l) (hb : Below w.heap.size w w') {i : Nat} (hi : i < l.length) : ∃ ad, A = some ad ∧ ActAt w' ad i l[i] := by
  obtain ⟨ad, c, hA, hl, hK, hc⟩ := Kd.C_get (Kd.C_below h hb) za (i : Int) (by omega) (by omega)
  have hcs := kAc_cells hK
  have hg : l.getD (i : Int).toNat za = l[i] := by rw [Int.toNat_natCast, List.getD_eq_getElem?_getD, List.getElem?_eq_getElem hi]; rfl
  rw [hg] at hcs
  subst hcs
  rw [Int.toNat_natCast] at hc
  have H : ∀ j u, 0 < j → [Value.bool l[i].d, .int .i64 l[i].id, .int .i64 l[i].p, .int .u64 l[i].b, .int .u64 l[i].n][j]? = some u → w'.cell? { block := (ad.add (i * 5)).block, off := (ad.add (i * 5)).off + j } = some u := fun j u hj hu => (add_field ad (i * 5) j hj) ▸ hc j u hu
  exact ⟨ad, hA, hc 0 _ rfl, H 1 _ (by decide) rfl, H 2 _ (by decide) rfl, H 3 _ (by decide) rfl, H 4 _ (by decide) rfl⟩
theorem opensAct {H : Type} {enc : TypeId × Value → H} : Go.Proofs.YtaolpniigjmccaaO.Opens enc Try.prog 25 kAc (fun a => True ∧ (Lit.int .i64 a.id).wf = true ∧ (Lit.int .i64 a.p).wf = true ∧ (Lit.int .u64 a.b).wf = true ∧ (Lit.int .u64 a.n).wf = true) :=
  Go.Proofs.YtaolpniigjmccaaO.opens_struct Try.underlying25 (by kernel_rfl)
    (Go.Proofs.YtaolpniigjmccaaO.opensFs_cons rfl (Go.Proofs.YtaolpniigjmccaaO.opens_bool Try.underlying4 (by kernel_rfl)) (Go.Proofs.YtaolpniigjmccaaO.opensFs_cons rfl (Go.Proofs.YtaolpniigjmccaaO.opens_int Try.underlying3 (by kernel_rfl)) (Go.Proofs.YtaolpniigjmccaaO.opensFs_cons rfl (Go.Proofs.YtaolpniigjmccaaO.opens_int Try.underlying3 (by kernel_rfl)) (Go.Proofs.YtaolpniigjmccaaO.opensFs_cons rfl (Go.Proofs.YtaolpniigjmccaaO.opens_int Try.underlying23 (by kernel_rfl)) (Go.Proofs.YtaolpniigjmccaaO.opensFs_last rfl (Go.Proofs.YtaolpniigjmccaaO.opens_int Try.underlying23 (by kernel_rfl)))))))
    (fun a : Ac => (a.d, a.id, a.p, a.b, a.n)) (fun a => ⟨a.1, a.2.1, a.2.2.1, a.2.2.2.1, a.2.2.2.2⟩) (fun _ => rfl)
def ActWf (a : Ac) : Prop := True ∧ (Lit.int .i64 a.id).wf = true ∧ (Lit.int .i64 a.p).wf = true ∧ (Lit.int .u64 a.b).wf = true ∧ (Lit.int .u64 a.n).wf = true
theorem opensActs {H : Type} {enc : TypeId × Value → H} : Go.Proofs.YtaolpniigjmccaaO.Opens enc Try.prog 22 (Kd.slice 25 kAc) (fun l => l.length ≤ maxLen ∧ l.length * Try.prog.bytesOf 25 ≤ 140737488351232 ∧ ∀ a ∈ l, ActWf a) :=
  Go.Proofs.YtaolpniigjmccaaO.opens_slice Try.underlying22 (by kernel_rfl) opensAct
theorem wf_u64 {n : Int} (h : (Lit.int .u64 n).wf = true) : 0 ≤ n ∧ n < 18446744073709551616 := by
  have k : IntKind.u64.min ≤ n ∧ n ≤ IntKind.u64.max := by simpa [Lit.wf] using h
  have e1 : IntKind.u64.min = 0 := rfl
  have e2 : IntKind.u64.max = 18446744073709551615 := rfl
  omega
end Go.Proofs.Ytaolpniigjmccaa.All
