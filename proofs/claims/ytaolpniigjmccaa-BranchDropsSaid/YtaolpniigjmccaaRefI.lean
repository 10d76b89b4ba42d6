/-
  The document's Fork, all ways joined; an act by both forests. No condition but that they lie as their rows say. (RefF: the way that forks.)
-/
import Derived.Test.YtaolpniigjmccaaRefF
import Derived.Test.YtaolpniigjmccaaRefH
namespace Go.Proofs.Ytaolpniigjmccaa.All
open Go.RowKit Go.Proofs.YtaolpniigjmccaaW.PrintWords Go.Proofs.YtaolpniigjmccaaW.PrintLast Go.Proofs.YtaolpniigjmccaaW.PrintMore Go.Proofs.Ytaolpniigjmccaa.Wd
set_option linter.unusedVariables false
def RForkPost (F : List Tw) (g : Nat) (id p b n : Int) (w : World) (e : Ending) (w' : World) : Prop := e = .returned (.int .i64 (forkC F id p b n)) ∧ (∃ A c, XAt w' g A c (refL (forkF F id p b n))) ∧ Chg (· = g) w w'
theorem rfork_same {F : List Tw} {g c : Nat} {A : Option Addr} {id p b n : Int} {w : World} (h : XAt w g A c (refL F)) {k : Int} (hc : forkC F id p b n = k) (hn : k ≠ 0) : RForkPost F g id p b n w (.returned (.int .i64 k)) w :=
  ⟨ret_i hc.symm, ⟨A, c, by rw [fork_no (by rw [hc]; exact hn)]; exact h⟩, Chg.refl _ _⟩
theorem rfork_is {F : List Tw} (ok : Ok F) {g c : Nat} {A : Option Addr} {w : World} (h : XAt w g A c (refL F)) (id p b n : Int) :
    Calls Try.prog 31 #[.pointer (some ⟨g, 0, none⟩), .int .i64 id, .int .i64 p, .int .u64 b, .int .u64 n] w (RForkPost F g id p b n w) := by
  by_cases hr : id < 1 ∨ 16 ≤ id
  · exact (rfork_range id p b n (by omega)).mono fun e w' ⟨he, hw⟩ => by subst he hw; exact rfork_same h (by unfold forkC; rw [if_pos hr]) (by decide)
  have h0 : 1 ≤ id := by omega
  have h1 : id < 16 := by omega
  have AC := fun j => ralive_is ok h j
  by_cases ha : (tw F id).a = true
  · have e0 : aliveF F id = true := by rw [alive_in (by omega) h1 (by omega)]; exact ha
    exact (rfork_twice id p b n h0 h1 (by have := AC id; rwa [e0] at this)).mono fun e w' ⟨he, hw⟩ => by subst he hw; exact rfork_same h (by unfold forkC; rw [if_neg hr, if_pos ha]) (by decide)
  have ha' : (tw F id).a = false := by simpa using ha
  have e0 : aliveF F id = false := by rw [alive_in (by omega) h1 (by omega)]; exact ha'
  by_cases hp : aliveF F p = true
  · have NC := rnum_is ok h p
    rw [show numF F p = (tw F p).n by unfold numF; rw [if_pos hp]] at NC
    by_cases hb : b < (tw F p).n ∨ n ≤ b
    · exact (rfork_past id p b n _ h0 h1 (aliveF F) e0 hp AC NC hb).mono fun e w' ⟨he, hw⟩ => by subst he hw; exact rfork_same h (by unfold forkC; rw [if_neg hr, if_neg ha, if_neg (by rw [hp]; decide), if_pos hb]) (by decide)
    · have hk : forkC F id p b n = 0 := by unfold forkC; rw [if_neg hr, if_neg ha, if_neg (by rw [hp]; decide), if_neg hb]
      obtain ⟨k, rfl⟩ : ∃ k : Nat, id = (k : Int) := ⟨id.toNat, by omega⟩
      obtain ⟨t, e1, e2, e3, e4⟩ := ref_put ok.len (show k < 16 by omega) ha' p b n
      have hl := refL_len F
      rw [e1] at h hl
      refine (rfork_done h (k : Int) p b n _ h0 h1 (by omega) (by omega) hl e3 e4 (aliveF F) e0 hp AC NC).mono fun e w' ⟨he, hx, hc⟩ => ⟨he.trans (ret_i hk.symm), ?_, hc⟩
      unfold forkF
      rw [if_pos hk, Int.toNat_natCast, e2]
      simpa using hx
  · exact (rfork_none id p b n h0 h1 (aliveF F) e0 (by simpa using hp) AC).mono fun e w' ⟨he, hw⟩ => by subst he hw; exact rfork_same h (by unfold forkC; rw [if_neg hr, if_neg ha, if_pos (by simpa using hp)]) (by decide)
theorem do_is {F : List Tw} (ok : Ok F) {b g : Nat} {w : World} (h : Two w b g F) (a : Ac) :
    Calls Try.prog 17 #[.pointer (some ⟨b, 0, none⟩), .pointer (some ⟨g, 0, none⟩), .agg #[.bool a.d, .int .i64 a.id, .int .i64 a.p, .int .u64 a.b, .int .u64 a.n]] w (DoPost F a b g w) := by
  by_cases hd : a.d = true
  · exact do_drop ok h a hd
  · exact do_fork (fun w g c A x p b n hx => rfork_is ok hx x p b n) h a (by simpa using hd)
end Go.Proofs.Ytaolpniigjmccaa.All
