/-
  The document's forest in Go's memory, and what its functions that only read answer. Condition: the list lies as its rows say.
-/
import Derived.Test.YtaolpniigjmccaaRefP
import Derived.Test.YtaolpniigjmccaaForest
namespace Go.Proofs.Ytaolpniigjmccaa.All
open Go.RowKit Go.Proofs.YtaolpniigjmccaaW.PrintWords Go.Proofs.YtaolpniigjmccaaW.PrintLast Go.Proofs.YtaolpniigjmccaaW.PrintMore Go.Proofs.Ytaolpniigjmccaa.Wd
set_option linter.unusedVariables false
set_option linter.unusedSimpArgs false

/-- The list in its row, for good. -/
def BrRow (w : World) (A : Option Addr) (X : List Br) : Prop := X ≠ [] → ∃ blk cs, A = some ⟨blk, 0, none⟩ ∧ w.heap[blk]? = some (.cells cs 76) ∧ ∀ (j : Nat) (u : Value), (brcs X)[j]? = some u → cs[j]? = some u
/-- The document's forest at a block. -/
structure XAt (w : World) (g : Nat) (A : Option Addr) (c : Nat) (X : List Br) : Prop where
  head : w.heap[g]? = some (.cells #[.slice A X.length c] 47)
  cap : X.length ≤ c
  row : BrRow w A X
theorem BrRow.chg {S : Nat → Prop} {w w2 : World} {A : Option Addr} {X : List Br} (h : BrRow w A X) (hc : Chg S w w2) (hs : ∀ blk cs, w.heap[blk]? = some (.cells cs 76) → ¬ S blk) : BrRow w2 A X := fun hn => by
  obtain ⟨blk, cs, h1, h2, h3⟩ := h hn
  exact ⟨blk, cs, h1, hc.old h2 (hs blk cs h2), h3⟩
theorem XAt.chg {S : Nat → Prop} {w w2 : World} {g : Nat} {A : Option Addr} {c : Nat} {X : List Br} (h : XAt w g A c X) (hc : Chg S w w2) (hg : ¬ S g) (hs : ∀ blk cs, w.heap[blk]? = some (.cells cs 76) → ¬ S blk) : XAt w2 g A c X := ⟨hc.old h.head hg, h.cap, h.row.chg hc hs⟩
theorem XAt.below {w w2 : World} {g : Nat} {A : Option Addr} {c : Nat} {X : List Br} (h : XAt w g A c X) (hb : Below w.heap.size w w2) : XAt w2 g A c X := h.chg (S := fun _ => False) (.of_below hb) (fun e => e) (fun _ _ _ e => e)
theorem XAt.lt {w : World} {g : Nat} {A : Option Addr} {c : Nat} {X : List Br} (h : XAt w g A c X) : g < w.heap.size := (Array.getElem?_eq_some_iff.1 h.head).1
theorem XAt.cell {w : World} {g : Nat} {A : Option Addr} {c : Nat} {X : List Br} (h : XAt w g A c X) : w.cell? { block := g, off := 0 } = some (.slice A X.length c) := cell_of_row w g 0 _ _ (0, 0) h.head
theorem XAt.frozen {w : World} {g : Nat} {A : Option Addr} {c : Nat} {X : List Br} (h : XAt w g A c X) : w.frozen? { block := g, off := 0 } = false := frozen_of_row w g 0 _ _ h.head
/-- A forest of the program's lies elsewhere. -/
theorem XAt.apart {w : World} {g b : Nat} {A : Option Addr} {c : Nat} {X : List Br} {F : List Tw} (h : XAt w g A c X) (hf : At w b 69 F) : b ≠ g := by
  rintro rfl
  have := hf.2.symm.trans h.head
  simp at this
theorem XAt.forest {w w2 : World} {g b : Nat} {A : Option Addr} {c : Nat} {X : List Br} {F : List Tw} (h : XAt w g A c X) (hf : At w b 69 F) (hc : Chg (· = b) w w2) : XAt w2 g A c X :=
  h.chg hc (fun e => h.apart hf e.symm) (fun blk cs hb e => by
    have e : blk = b := e
    subst e
    have := hf.2.symm.trans hb
    simp at this)
theorem BrRow.at {w : World} {A : Option Addr} {X : List Br} (h : BrRow w A X) {i : Nat} (hi : i < X.length) : ∃ blk, A = some ⟨blk, 0, none⟩ ∧ w.cell? { block := blk, off := i * 4 } = some (.int .i64 X[i].id) ∧ w.cell? { block := blk, off := i * 4 + 1 } = some (.int .i64 X[i].p) ∧ w.cell? { block := blk, off := i * 4 + 2 } = some (.int .u64 X[i].b) ∧ w.cell? { block := blk, off := i * 4 + 3 } = some (.int .u64 X[i].n) := by
  obtain ⟨blk, cs, h1, h2, h3⟩ := h (fun e => by rw [e] at hi; exact absurd hi (Nat.not_lt_zero _))
  have H : ∀ j u, (brc X[i])[j]? = some u → j < 4 → w.cell? { block := blk, off := i * 4 + j } = some u := fun j u hu hj => by
    rw [show w.cell? { block := blk, off := i * 4 + j } = cs[i * 4 + j]? from cell_of_row w blk (i * 4 + j) cs _ (0, 0) h2]
    exact h3 _ _ (by rw [brcs_get X i j hi hj]; exact hu)
  exact ⟨blk, h1, H 0 _ rfl (by omega), H 1 _ rfl (by omega), H 2 _ rfl (by omega), H 3 _ rfl (by omega)⟩
theorem findL_drop : ∀ (l : List Br) (id : Int) (i k : Nat) (h : k < l.length), (∀ j (hj : j < k), (l[j]'(by omega)).id ≠ id) → findL l id i = if l[k].id = id then ((i + k : Nat) : Int) else findL (l.drop (k + 1)) id (i + (k + 1))
  | x :: l, id, i, 0, h, _ => by simp [findL]
  | x :: l, id, i, k + 1, h, hn => by
    have h0 : x.id ≠ id := hn 0 (by omega)
    show (if x.id = id then _ else findL l id (i + 1)) = _
    rw [if_neg h0, findL_drop l id (i + 1) k (by simpa using h) (fun j hj => hn (j + 1) (by omega))]
    simp only [List.getElem_cons_succ, List.drop_succ_cons]
    split
    · congr 1; omega
    · congr 1; omega
set_option maxRecDepth 100000 in
set_option maxHeartbeats 1000000 in
theorem rfind_calls {X : List Br} {g c : Nat} {A : Option Addr} {w : World} (h : XAt w g A c X) (hl : X.length ≤ 1000) (id : Int) :
    Calls Try.prog 34 #[.pointer (some ⟨g, 0, none⟩), .int .i64 id] w fun e w' => e = .returned (.int .i64 (findL X id 0)) ∧ w = w' := by
  have hc := h.cell
  have HH := Lib.hid h
  clear h
  go_enter Try.func34, Try.ntmps34
  go_wp2
  go_loop [5] (fun v5 => ∃ k : Nat, k ≤ X.length ∧ v5 = .int .i64 k ∧ Hid (∀ j (hj : j < k) (hl : j < X.length), X[j].id ≠ id)) (fun v5 => X.length - (intOf v5).toNat)
  case atStart => exact ⟨0, Nat.zero_le _, rfl, Lib.hid (fun j hj => absurd hj (Nat.not_lt_zero _))⟩
  case round =>
    obtain ⟨k, hk, rfl, HN⟩ := hrel
    by_cases hlt : k < X.length
    · obtain ⟨blk, rfl, e0, e1, e2, e3⟩ := HH.out.row.at hlt
      clear e1 e2 e3
      have HF := Lib.hid (findL_drop X id 0 k hlt (fun j hj => HN.out j hj (by omega)))
      have HA : Hid (X[k].id ≠ id → ∀ j (hj : j < k + 1) (hl : j < X.length), X[j].id ≠ id) := fun hne j hj hl => by
        by_cases hjk : j = k
        · subst hjk; exact hne
        · exact HN.out j (by omega) hl
      generalize X[k].id = y at *
      cases hy : (y == id) with
      | true =>
        have hyy : y = id := by simpa using hy
        replace HF := Lib.hid (show findL X id 0 = (k : Int) by rw [HF.out, if_pos hyy, Nat.zero_add])
        clear hyy
        go_wp2
        go_ret
        exact ⟨ret_i HF.out.symm, rfl⟩
      | false =>
        have hyy : y ≠ id := by simpa using hy
        replace HA := Lib.hid (HA.out hyy)
        clear HF hyy
        go_wp2
        go_round
        case rel => exact ⟨k + 1, by omega, by go_num, HA⟩
        case measure => simp [intOf]; omega
    · have HF := Lib.hid (find_none X id 0 (fun x hx => by
        obtain ⟨j, hj, rfl⟩ := List.mem_iff_getElem.1 hx
        exact HN.out j (by omega) hj))
      go_wp2
      go_ret
      exact ⟨ret_i HF.out.symm, rfl⟩
set_option maxRecDepth 100000 in
theorem ralive_calls {X : List Br} {g c : Nat} {A : Option Addr} {w : World} (h : XAt w g A c X) (hl : X.length ≤ 1000) (id : Int) :
    Calls Try.prog 29 #[.pointer (some ⟨g, 0, none⟩), .int .i64 id] w fun e w' => e = .returned (.bool (id == 0 || decide (0 ≤ findL X id 0))) ∧ w = w' := by
  have FC := Lib.hid (rfind_calls h hl id)
  cases hz : (id == 0) with
  | true =>
    go_enter Try.func29, Try.ntmps29
    go_wp2
    go_ret
    exact ⟨rfl, rfl⟩
  | false =>
    generalize findL X id 0 = r at *
    go_enter Try.func29, Try.ntmps29
    go_wp2_with (go_at_call 34; refine FC.out.mono ?_; rintro e w' ⟨rfl, rfl⟩)
    go_ret
    exact ⟨ret_b (by simp), rfl⟩
/-! ### of a forest that the program's follows -/
theorem refL_len (F : List Tw) : (refL F).length ≤ 16 := ref_len F 16
theorem rfind_is {F : List Tw} (ok : Ok F) {g c : Nat} {A : Option Addr} {w : World} (h : XAt w g A c (refL F)) (id : Int) :
    Calls Try.prog 34 #[.pointer (some ⟨g, 0, none⟩), .int .i64 id] w fun e w' => e = .returned (.int .i64 (if isSon F id = true then ((pos F id.toNat : Nat) : Int) else -1)) ∧ w = w' := by
  rw [← find_ref ok]
  exact rfind_calls h (Nat.le_trans (refL_len F) (by decide)) id
theorem ralive_is {F : List Tw} (ok : Ok F) {g c : Nat} {A : Option Addr} {w : World} (h : XAt w g A c (refL F)) (id : Int) :
    Calls Try.prog 29 #[.pointer (some ⟨g, 0, none⟩), .int .i64 id] w fun e w' => e = .returned (.bool (aliveF F id)) ∧ w = w' := by
  rw [← alive_ref ok]
  exact ralive_calls h (Nat.le_trans (refL_len F) (by decide)) id
theorem XAt.son {F : List Tw} {g c : Nat} {A : Option Addr} {w : World} (h : XAt w g A c (refL F)) {id : Int} (hs : isSon F id = true) : ∃ blk, A = some ⟨blk, 0, none⟩ ∧ pos F id.toNat < (refL F).length ∧ w.cell? { block := blk, off := pos F id.toNat * 4 } = some (.int .i64 id) ∧ w.cell? { block := blk, off := pos F id.toNat * 4 + 1 } = some (.int .i64 (tw F id).p) ∧ w.cell? { block := blk, off := pos F id.toNat * 4 + 2 } = some (.int .u64 (tw F id).b) ∧ w.cell? { block := blk, off := pos F id.toNat * 4 + 3 } = some (.int .u64 (tw F id).n) := by
  obtain ⟨hlt, he⟩ := List.getElem?_eq_some_iff.1 (ref_son hs)
  obtain ⟨blk, h1, e0, e1, e2, e3⟩ := h.row.at hlt
  rw [he] at e0 e1 e2 e3
  exact ⟨blk, h1, hlt, e0, e1, e2, e3⟩
theorem num_son {F : List Tw} (ok : Ok F) (id : Int) : numF F id = if isSon F id = true then (tw F id).n else 0 := by
  unfold numF
  by_cases hz : id = 0
  · subst hz
    rw [if_pos (alive_zero F), ok.zero]
    rfl
  · by_cases ha : aliveF F id = true
    · rw [if_pos ha, if_pos (isSon_of ha hz)]
    · rw [if_neg ha, if_neg (fun hs => ha (son_parts hs).1)]
set_option maxRecDepth 100000 in
theorem rnum_is {F : List Tw} (ok : Ok F) {g c : Nat} {A : Option Addr} {w : World} (h : XAt w g A c (refL F)) (id : Int) :
    Calls Try.prog 36 #[.pointer (some ⟨g, 0, none⟩), .int .i64 id] w fun e w' => e = .returned (.int .u64 (numF F id)) ∧ w = w' := by
  have FC := rfind_is ok h id
  have hc := h.cell
  have hl := refL_len F
  rw [num_son ok]
  by_cases hs : isSon F id = true
  · obtain ⟨blk, rfl, hlt, e0, e1, e2, e3⟩ := h.son hs
    rw [if_pos hs] at FC ⊢
    replace FC := Lib.hid FC
    clear h hs e0 e1 e2
    generalize pos F id.toNat = k at *
    go_enter Try.func36, Try.ntmps36
    go_wp2_with (go_at_call 34; refine FC.out.mono ?_; rintro e w' ⟨rfl, rfl⟩)
    go_ret
    exact ⟨rfl, rfl⟩
  · rw [if_neg hs] at FC ⊢
    replace FC := Lib.hid FC
    go_enter Try.func36, Try.ntmps36
    go_wp2_with (go_at_call 34; refine FC.out.mono ?_; rintro e w' ⟨rfl, rfl⟩)
    go_ret
    exact ⟨rfl, rfl⟩
theorem countP_takeB (l : List Br) (p : Br → Bool) (i : Nat) (h : i < l.length) : (l.take (i + 1)).countP p = (l.take i).countP p + if p l[i] = true then 1 else 0 := by
  rw [List.take_add_one, List.getElem?_eq_getElem h, List.countP_append]
  simp [List.countP_cons]
set_option maxRecDepth 100000 in
set_option maxHeartbeats 1000000 in
theorem rkids_calls {X : List Br} {g c : Nat} {A : Option Addr} {w : World} (h : XAt w g A c X) (hl : X.length ≤ 1000) (id : Int) :
    Calls Try.prog 35 #[.pointer (some ⟨g, 0, none⟩), .int .i64 id] w fun e w' => e = .returned (.int .i64 ((X.countP fun x => x.p == id : Nat) : Int)) ∧ w = w' := by
  have hc := h.cell
  have HH := Lib.hid h
  clear h
  go_enter Try.func35, Try.ntmps35
  go_wp2
  go_loop [5, 6] (fun v5 v6 => ∃ k : Nat, k ≤ X.length ∧ v6 = .int .i64 k ∧ v5 = .int .i64 (((X.take k).countP fun x => x.p == id : Nat) : Int)) (fun _ v6 => X.length - (intOf v6).toNat)
  case atStart => exact ⟨0, Nat.zero_le _, rfl, rfl⟩
  case round =>
    obtain ⟨k, hk, rfl, rfl⟩ := hrel
    have hcp := List.countP_le_length (p := fun x : Br => x.p == id) (l := X.take k)
    have hlt' : (X.take k).length ≤ k := List.length_take_le _ _
    by_cases hlt : k < X.length
    · obtain ⟨blk, rfl, e0, e1, e2, e3⟩ := HH.out.row.at hlt
      clear e0 e2 e3
      have CT := countP_takeB X (fun x => x.p == id) k hlt
      generalize X[k].p = y at *
      cases hy : (y == id) with
      | true =>
        rw [hy, if_pos rfl] at CT
        replace CT := Lib.hid CT
        go_wp2
        go_round
        case rel => exact ⟨k + 1, by omega, by go_num, by rw [CT.out]; go_num⟩
        case measure => simp [intOf]; omega
      | false =>
        rw [hy, if_neg (by decide)] at CT
        replace CT := Lib.hid CT
        go_wp2
        go_round
        case rel => exact ⟨k + 1, by omega, by go_num, by rw [CT.out]; rfl⟩
        case measure => simp [intOf]; omega
    · have hx := Lib.hid (show X.take k = X by rw [List.take_of_length_le (by omega)])
      go_wp2
      go_ret
      exact ⟨ret_i (by rw [hx.out]), rfl⟩
theorem rkids_is {F : List Tw} (ok : Ok F) {g c : Nat} {A : Option Addr} {w : World} (h : XAt w g A c (refL F)) (id : Int) :
    Calls Try.prog 35 #[.pointer (some ⟨g, 0, none⟩), .int .i64 id] w fun e w' => e = .returned (.int .i64 ((kidsF F id : Nat) : Int)) ∧ w = w' := by
  rw [← kids_ref ok]
  exact rkids_calls h (Nat.le_trans (refL_len F) (by decide)) id
end Go.Proofs.Ytaolpniigjmccaa.All
