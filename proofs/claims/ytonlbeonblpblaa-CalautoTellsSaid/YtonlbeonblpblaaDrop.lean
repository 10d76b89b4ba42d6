/-
  A moment dropped: in a table that lies as its row says; slices.Delete of one item. No condition but that its numbers rise, its minutes are minutes, and it is short.
-/
import Derived.Test.YtonlbeonblpblaaRel
import Derived.Deep.RegionLaw
import Derived.Lib.SliceRun
namespace Go.Proofs.Ytonlbeonblpblaa.All
open Go.RowKit Go.Proofs.YtonlbeonblpblaaW.PrintWords Go.Proofs.YtonlbeonblpblaaW.PrintLast Go.Proofs.YtonlbeonblpblaaW.PrintMore Go.Proofs.Ytonlbeonblpblaa.Wd
set_option linter.unusedVariables false
set_option linter.unusedSimpArgs false
private theorem ym (motive : Option Value → Sort _) (h1 : (b : Bool) → motive (some (.bool b))) (h2 : (x : Option Value) → motive x) : Go.yielded.match_1 motive (some undef) h1 h2 = h2 (some undef) := rfl
attribute [local go_sem, local simp] ym
theorem itcs_take : ∀ (X : List It) (k : Nat), (itcs X).take (k * 3) = itcs (X.take k)
  | _, 0 => by simp [itcs]
  | [], k + 1 => by simp [itcs]
  | x :: l, k + 1 => by
    show (itc x ++ itcs l).take _ = itc x ++ itcs (l.take k)
    rw [List.take_append, show (itc x).length = 3 from rfl, show (k + 1) * 3 - 3 = k * 3 by omega, itcs_take l k, List.take_of_length_le (by show 3 ≤ _; omega)]
theorem itcs_drop : ∀ (X : List It) (k : Nat), (itcs X).drop (k * 3) = itcs (X.drop k)
  | _, 0 => by simp
  | [], k + 1 => by simp [itcs]
  | x :: l, k + 1 => by
    show (itc x ++ itcs l).drop _ = itcs (l.drop k)
    rw [List.drop_append, show (itc x).length = 3 from rfl, show (k + 1) * 3 - 3 = k * 3 by omega, itcs_drop l k, List.drop_of_length_le (by show 3 ≤ _; omega)]
    rfl
theorem itcs_one1 : ∀ (X : List It), ∀ u ∈ itcs X, u.oneCell' = true
  | [], u, h => by cases h
  | x :: l, u, h => by
    have h : u ∈ itc x ++ itcs l := h
    rcases List.mem_append.1 h with h | h
    · unfold itc at h
      simp only [List.mem_cons, List.not_mem_nil, or_false] at h
      rcases h with rfl | rfl | rfl <;> rfl
    · exact itcs_one1 l u h
/-- Values written over a row's cells. -/
def setA : Array Value → Nat → List Value → Array Value
  | cur, _, [] => cur
  | cur, o, v :: r => setA (cur.set! o v) (o + 1) r
theorem setA_size : ∀ (vs : List Value) (cur : Array Value) (o : Nat), (setA cur o vs).size = cur.size
  | [], _, _ => rfl
  | v :: r, cur, o => by rw [setA, setA_size r]; simp
theorem setA_take : ∀ (vs : List Value) (cur : Array Value) (o : Nat), (setA cur o vs).toList.take o = cur.toList.take o
  | [], _, _ => rfl
  | v :: r, cur, o => by
    have h := setA_take r (cur.set! o v) (o + 1)
    have h2 := congrArg (List.take o) h
    rw [List.take_take, List.take_take, Nat.min_eq_left (by omega)] at h2
    rw [setA, h2]
    simp only [Array.set!_eq_setIfInBounds, Array.toList_setIfInBounds, List.take_set]
    rw [List.set_eq_of_length_le (by rw [List.length_take]; omega)]
theorem setA_take2 : ∀ (vs : List Value) (cur : Array Value) (o : Nat), o + vs.length ≤ cur.size → (setA cur o vs).toList.take (o + vs.length) = cur.toList.take o ++ vs
  | [], cur, o, _ => by simp [setA]
  | v :: r, cur, o, h => by
    have h' : o + (r.length + 1) ≤ cur.size := h
    have h2 := setA_take2 r (cur.set! o v) (o + 1) (by simp; omega)
    rw [setA, show o + (v :: r).length = o + 1 + r.length by rw [List.length_cons]; omega, h2]
    have e : (cur.set! o v).toList.take (o + 1) = cur.toList.take o ++ [v] := by
      rw [List.take_succ_eq_append_getElem (by simp; omega)]
      simp only [Array.set!_eq_setIfInBounds, Array.toList_setIfInBounds, List.take_set, List.getElem_set_self]
      rw [List.set_eq_of_length_le (by rw [List.length_take]; omega)]
    rw [e, List.append_assoc]
    rfl
theorem heap_setCells (b : Nat) : ∀ (vs : List Value) (o : Nat) (w : World) (cur : Array Value) (t : TypeId), w.heap[b]? = some (.cells cur t) → (w.setCells b o vs).heap[b]? = some (.cells (setA cur o vs) t)
  | [], _, _, _, _, h => h
  | v :: r, o, w, cur, t, h => by
    rw [World.setCells, setA]
    refine heap_setCells b r (o + 1) _ _ t ?_
    simp [World.setCell, Array.getElem?_modify, h]
theorem chg_setCells (b : Nat) : ∀ (vs : List Value) (o : Nat) (a w : World), Chg (· = b) a w → Chg (· = b) a (w.setCells b o vs)
  | [], _, _, _, h => h
  | v :: r, o, a, w, h => chg_setCells b r (o + 1) a _ (h.setCell (p := ⟨b, o, none⟩) rfl v)
theorem run_clear_item {P : Program} (w : World) (t e ty : TypeId) (z : Value) (zs : List Value) (ht : P.underlying t = some (.slice e)) (hv : ∀ w, (zeroValue e).run P w = .ok z w) (hz : z.cells = zs.toArray) (h1 : ∀ v ∈ zs, v.oneCell' = true) (b o c : Nat)
    (hc : ∀ j, j < zs.length → (w.cell? ⟨b, o + j, none⟩).isSome = true) (hf : ∀ j, j < zs.length → w.frozen? ⟨b, o + j, none⟩ = false) :
    (Builtin.clear_ #[t] ty #[.slice (some ⟨b, o, none⟩) 1 c]).run P w = .ok (.tuple #[]) (w.setCells b o zs) := by
  have hzc : (Builtin.zeroCells z.cells 1).toList = zs := by
    rw [hz]
    simp only [Builtin.zeroCells, Nat.one_mul]
    apply List.ext_getElem
    · simp
    · intro i h1 h2
      simp only [Array.toList_map, List.getElem_map, Array.toList_range, List.getElem_range, List.size_toArray]
      rw [Nat.mod_eq_of_lt h2]
      simp [h2]
  have hst := run_storeCells_cells (P := P) b o zs 0 w (by simpa using hc) (by simpa using hf) h1
  simp only [Nat.add_zero] at hst
  simp [Builtin.clear_, run_underlying ht, hv, hzc, hst]
theorem item_zero (w : World) : (zeroValue 80).run Try.prog w = .ok (.agg #[.int .u64 0, .int .i64 0, .bool false]) w := by
  have hz : Try.t80.zero = some (.agg #[.int .u64 0, .int .i64 0, .bool false]) := by kernel_rfl
  simp [zeroValue, hz]
def DelPost (M : List It) (i q c base : Nat) (w : World) (e : Ending) (w' : World) : Prop :=
  e = .returned (.slice (some ⟨q, 0, none⟩) (M.length - 1) c) ∧ w'.ownsRow base 80 3 (.slice (some ⟨q, 0, none⟩) (M.length - 1) c) (M.length - 1) (itcs (M.eraseIdx i)) ∧ Chg (· = q) w w'
theorem erase_split {α : Type} (M : List α) (i : Nat) : M.eraseIdx i = M.take i ++ M.drop (i + 1) := List.eraseIdx_eq_take_drop_succ M i
theorem del_own {M : List It} {w W2 : World} {base c q i : Nat} {cur : Array Value} (hb : base ≤ q) (hh : w.heap[q]? = some (.cells cur 80)) (hc : M.length ≤ c) (hm : c ≤ maxLen) (hs : cur.size = c * 3) (ht : cur.toList.take (M.length * 3) = itcs M) (hi : i < M.length) {zs : List Value} (hz : zs.length = 3)
    (hW : W2 = (w.setCells q (i * 3) ((itcs M).drop ((i + 1) * 3))).setCells q ((M.length - 1) * 3) zs) :
    W2.ownsRow base 80 3 (.slice (some ⟨q, 0, none⟩) (M.length - 1) c) (M.length - 1) (itcs (M.eraseIdx i)) := by
  subst hW
  have h1 := heap_setCells q ((itcs M).drop ((i + 1) * 3)) (i * 3) w cur _ hh
  have h2 := heap_setCells q zs ((M.length - 1) * 3) _ _ _ h1
  have hl : ((itcs M).drop ((i + 1) * 3)).length = M.length * 3 - (i + 1) * 3 := by rw [List.length_drop, itcs_len]
  refine ⟨by rw [itcs_len, List.length_eraseIdx, if_pos hi], .inr ⟨q, c, _, rfl, hb, h2, by omega, ?_, ?_, ?_⟩⟩
  · exact hm
  · rw [setA_size, setA_size, hs]
  · rw [setA_take]
    have h3 := setA_take2 ((itcs M).drop ((i + 1) * 3)) cur (i * 3) (by rw [hl, hs]; omega)
    rw [hl, show i * 3 + (M.length * 3 - (i + 1) * 3) = (M.length - 1) * 3 by omega] at h3
    rw [h3, itcs_drop, erase_split, itcs_app]
    have h4 := congrArg (List.take (i * 3)) ht
    rw [List.take_take, Nat.min_eq_left (by omega), itcs_take] at h4
    rw [h4]
set_option maxRecDepth 100000 in
set_option maxHeartbeats 4000000 in
theorem del_calls {M : List It} {base c q i : Nat} {w : World} (h : w.ownsRow base 80 3 (.slice (some ⟨q, 0, none⟩) M.length c) M.length (itcs M)) (hi : i < M.length) (hl : M.length ≤ 1000) :
    Calls Try.prog 47 #[.slice (some ⟨q, 0, none⟩) M.length c, .int .i64 (i : Nat), .int .i64 ((i : Int) + 1)] w (DelPost M i q c base w) := by
  obtain ⟨i0, hii, hz0, hz1, hz2⟩ := info_parts item_info
  rcases h.2 with ⟨h0, _⟩ | ⟨g', cap, cur, hv, hb, hh, hc, hm, hs, ht⟩
  · cases h0
  injection hv with e1 _ e3
  injection e1 with e1
  injection e1 with e1
  subst e1 e3
  clear h
  have hcell : ∀ j u, (itcs M)[j]? = some u → w.cell? { block := q, off := j } = some u := fun j u hu => (cell_of_row w q j cur _ (0, 0) hh).trans (by
    rw [← ht, List.getElem?_take] at hu
    split at hu
    · simpa using hu
    · cases hu)
  have hfr : ∀ j, w.frozen? { block := q, off := j } = false := fun j => frozen_of_row w q j cur _ hh
  have hcur : ∀ j, j < c * 3 → (w.cell? { block := q, off := j }).isSome = true := fun j hj => by
    rw [cell_of_row w q j cur _ (0, 0) hh, Array.getElem?_eq_getElem (by omega)]
    rfl
  obtain ⟨news, hnews⟩ : ∃ news, news = (itcs M).drop ((i + 1) * 3) := ⟨_, rfl⟩
  have hlen : news.length = (M.length - (i + 1)) * 3 := by rw [hnews, List.length_drop, itcs_len]; omega
  obtain ⟨A, hA, hsrc⟩ : ∃ A : Addr, (if c = i + 1 then some (⟨q, 0, none⟩ : Addr) else some ⟨q, (i + 1) * 3, none⟩) = some A ∧ Hid (∀ t u, news[t]? = some u → w.drew.cell? (A.add t) = some u) := by
    by_cases h : c = i + 1
    · refine ⟨⟨q, 0, none⟩, by simp [h], fun t u hu => ?_⟩
      have h0 : news.length = 0 := by rw [hlen]; omega
      rw [List.length_eq_zero_iff.1 h0] at hu
      simp at hu
    · refine ⟨⟨q, (i + 1) * 3, none⟩, by simp [h], fun t u hu => ?_⟩
      rw [hnews, List.getElem?_drop] at hu
      rw [Addr.add_lit]
      exact hcell _ _ hu
  have s1 : Hid (news.length = (M.length - (i + 1)) * 3) := hlen
  have s2 : Hid (∀ u ∈ news, u.oneCell' = true) := Lib.hid (fun u hu => by
    rw [hnews] at hu
    exact itcs_one1 M u (List.mem_of_mem_drop hu))
  have s3 : Hid (∀ t, t < news.length → (w.drew.cell? ⟨q, 0 + i * 3 + t, none⟩).isSome = true ∧ w.drew.frozen? ⟨q, 0 + i * 3 + t, none⟩ = false) := Lib.hid (fun t ht => by
    rw [hlen] at ht
    rw [Nat.zero_add]
    exact ⟨hcur (i * 3 + t) (by omega), hfr _⟩)
  obtain ⟨W1, hW1⟩ : ∃ W1, W1 = w.drew.setCells q (0 + i * 3) news := ⟨_, rfl⟩
  have hh1 : W1.heap[q]? = some (.cells (setA cur (0 + i * 3) news) 80) := by rw [hW1]; exact heap_setCells q news _ w.drew cur _ hh
  have hcl : ∀ ty, (Builtin.clear_ #[81] ty #[.slice (some ⟨q, (M.length - 1) * 3, none⟩) 1 (c - (M.length - 1))]).run Try.prog W1 = .ok (.tuple #[]) (W1.setCells q ((M.length - 1) * 3) [.int .u64 0, .int .i64 0, .bool false]) :=
    fun ty => run_clear_item W1 _ _ ty _ _ Try.underlying81 item_zero rfl (by simp [Value.oneCell']) q _ _ (fun j hj => by
      have hj : j < 3 := hj
      rw [cell_of_row W1 q _ _ _ (0, 0) hh1, Array.getElem?_eq_getElem (by rw [setA_size]; omega)]
      rfl) (fun j hj => frozen_of_row W1 q _ _ _ hh1)
  have EP : Hid (DelPost M i q c base w (.returned (.slice (some ⟨q, 0, none⟩) (M.length - 1) c)) (W1.setCells q ((M.length - 1) * 3) [.int .u64 0, .int .i64 0, .bool false])) := Lib.hid ⟨rfl, del_own (w := w.drew) (zs := [.int .u64 0, .int .i64 0, .bool false]) hb hh hc hm hs ht hi rfl (by rw [hW1, hnews, Nat.zero_add]), by
    refine chg_setCells q _ _ _ _ ?_
    rw [hW1]
    exact chg_setCells q _ _ _ _ (.of_below (below_drew (Below.refl _ _)))⟩
  have hW : Hid (W1 = w.drew.setCells q (0 + i * 3) news) := hW1
  have hi' := Lib.hid hii
  have b1 : (i : Int) ≤ (i : Int) + 1 := by omega
  have b2 : (i : Int) + 1 ≤ (M.length : Int) := by omega
  have b3 : (M.length : Int) ≤ (c : Int) := by omega
  have b4 : ((i : Int) == (i : Int) + 1) = false := beq_eq_false_iff_ne.2 (by omega)
  have b5 : ((i : Int) + 1).toNat = i + 1 := by omega
  have b6 : (0 : Int) ≤ (i : Int) + 1 := by omega
  have b7 : (i : Int) ≤ (c : Int) := by omega
  have b8 : (i : Int) + 1 ≤ (c : Int) := by omega
  have b9 : i + (M.length - (i + 1)) = M.length - 1 := by omega
  have c1 : c ≠ M.length - 1 := by omega
  have c2 : M.length - (M.length - 1) = 1 := by omega
  have c3 : ((M.length - 1 : Nat) : Int) ≤ (M.length : Int) := by omega
  have c4 : (M.length - 1 : Nat) ≤ c := by omega
  clear hW1 hh1 hcell hcur hfr hnews hlen hh hii ht hs hm
  go_enter Try.func47, Try.ntmps47
  go_upto_region 5 with fail
  go_region_law (refine step_append_room rfl (.tmp 22) (.tmp 25) 81 rfl 80 i0 3 Try.underlying81 hi'.out hz1 q 0 i c (by simp [Act.eval, Act.put]) A (M.length - (i + 1)) (c - (i + 1)) news (by simp [Act.eval, Act.put]) s1.out hsrc.out s2.out (by omega) s3.out ?_; rw [← hW.out, b9])
  all_goals
    go_wp2
    go_ret
    exact EP.out
def DropPost (M : List It) (num : Int) (base b : Nat) (w : World) (e : Ending) (w' : World) : Prop := e = .returned (.int .i64 (dropC M num)) ∧ (∃ A c, TAt w' base b A c (dropM M num)) ∧ TK base b w w'
theorem drop_same {M : List It} {num k : Int} {base b c : Nat} {A : Option Addr} {w w' : World} (h : TAt w base b A c M) (hc : dropC M num = k) (hk : k ≠ 0) (hb : Below w.heap.size w w') : DropPost M num base b w (.returned (.int .i64 k)) w' :=
  ⟨by rw [hc], ⟨A, c, by unfold dropM; rw [if_neg (by rw [hc]; exact hk)]; exact h.below hb⟩, TK.of_below hb⟩
theorem drop_end {M : List It} {base b c q k : Nat} {w w3 w4 : World} (h : TAt w base b (some ⟨q, 0, none⟩) c M) (hb : Below w.heap.size w w3) (hk : k < M.length) (ho : w4.ownsRow base 80 3 (.slice (some ⟨q, 0, none⟩) (M.length - 1) c) (M.length - 1) (itcs (M.eraseIdx k))) (hc : Chg (· = q) w3 w4) :
    (∃ A c', TAt (w4.setCell { block := b, off := 0 } (.slice (some ⟨q, 0, none⟩) (M.length - 1) c)) base b A c' (M.eraseIdx k)) ∧ TK base b w (w4.setCell { block := b, off := 0 } (.slice (some ⟨q, 0, none⟩) (M.length - 1) c)) ∧ w4.cell? { block := b, off := 0 } = some (.slice (some ⟨q, 0, none⟩) M.length c) ∧ w4.frozen? { block := b, off := 0 } = false := by
  have h3 := h.below hb
  obtain ⟨q2, cur, e, hbq, hh, _⟩ := own_row h3.own (by omega)
  injection e with e
  injection e with e
  subst e
  have hne : b ≠ q := fun e => heap_ne hh h3.head (by intro e; injection e with _ e; exact absurd e (by decide)) e.symm
  have hh4 : w4.heap[b]? = some (.cells #[.slice (some ⟨q, 0, none⟩) M.length c] 83) := hc.old h3.head hne
  have hl : (M.eraseIdx k).length = M.length - 1 := by rw [List.length_eraseIdx, if_pos hk]
  refine ⟨⟨some ⟨q, 0, none⟩, c, ?_, ?_⟩, ?_, cell_of_row _ b 0 _ _ (0, 0) hh4, frozen_of_row _ b 0 _ _ hh4⟩
  · rw [hl]
    simp [World.setCell, Array.getElem?_modify, hh4]
  · rw [hl]
    refine own_chg (S := (· = b)) ho (Chg.setCell (S := (· = b)) (Chg.refl _ _) (p := { block := b, off := 0 }) rfl _) (fun k cur hk e => ?_)
    subst e
    exact heap_ne hh4 hk (by intro e; injection e with _ e; exact absurd e (by decide)) rfl
  · refine TK.setCell ((TK.of_below hb).trans ⟨hc.os, hc.tape, hc.output, hc.size, fun i h1 h2 h3 => hc.block i h2 (fun e => by subst e; omega), fun i o h1 h2 h4 => ?_⟩) _ _
    refine (hc.block i (lt_heap h1) (fun e => ?_)).trans h1
    subst e
    rw [hh] at h1
    injection h1 with h1
    exact h4 cur h1.symm
set_option maxRecDepth 100000 in
set_option maxHeartbeats 2000000 in
theorem drop_calls {M : List It} (g : Good M) {A : Option Addr} {base b c : Nat} {w : World} (h : TAt w base b A c M) (num : Int) :
    Calls Try.prog 38 #[.pointer (some ⟨b, 0, none⟩), .int .u64 num] w (DropPost M num base b w) := by
  have FC := Lib.hid (find_calls g.up h g.len num)
  have HT := Lib.hid (fun (w2 : World) (hb : Below w.heap.size w w2) => (h.below hb).cell)
  have H := Lib.hid h
  have hll := g.len
  clear h
  cases hh : hit M num with
  | false =>
    have HC := Lib.hid (show dropC M num = 4 by unfold dropC; rw [if_pos hh])
    rw [hh] at FC
    clear hh
    generalize lb M num = k at *
    go_enter Try.func38, Try.ntmps38
    go_wp2_with (go_at_call 40; (with_reducible refine FC.out.mono ?_); rintro e w3 ⟨rfl, hb3⟩; replace hb3 := Lib.hid hb3)
    go_ret
    exact drop_same H.out HC.out (by decide) hb3.out
  | true =>
    obtain ⟨hlt, hn, hm⟩ := hit_at hh
    rw [hh] at FC
    have hC : dropC M num = if (M.getD (lb M num) zi).o = false then 7 else 0 := by
      unfold dropC
      rw [if_neg (by rw [hh]; decide)]
    have hM : dropC M num = 0 → dropM M num = M.eraseIdx (lb M num) := fun e => by unfold dropM; rw [if_pos e]
    replace hM := Lib.hid hM
    clear hm hn hh
    obtain ⟨k, hk⟩ : ∃ k, lb M num = k := ⟨_, rfl⟩
    rw [hk] at FC
    rw [hk] at hC hlt hM
    clear hk
    rw [getI M hlt] at hC
    have hk0 : 0 < M.length := by omega
    obtain ⟨q, hA, hq, hcc⟩ := H.out.row hk0
    subst hA
    have e0 := Lib.hid (fun (w2 : World) (hb : Below w.heap.size w w2) => show w2.cell? { block := q, off := k * 3 + 2 } = some (.bool M[k].o) from (hb.cell (p := { block := q, off := k * 3 + 2 }) hq).trans (hcc k hlt).2.2)
    clear hcc
    cases ho : M[k].o with
    | false =>
      rw [ho] at hC
      rw [if_pos rfl] at hC
      replace hC := Lib.hid hC
      simp only [ho] at e0
      clear ho
      go_enter Try.func38, Try.ntmps38
      go_wp2_with (go_at_call 40; (with_reducible refine FC.out.mono ?_); rintro e w3 ⟨rfl, hb3⟩; have hc3 := HT.out w3 hb3; have e1 := e0.out w3 hb3; replace hb3 := Lib.hid hb3)
      go_ret
      exact drop_same H.out hC.out (by decide) hb3.out
    | true =>
      rw [ho] at hC
      rw [if_neg (by decide)] at hC
      simp only [ho] at e0
      clear ho
      replace hC := Lib.hid hC
      have DC := Lib.hid (fun (w3 : World) (hb : Below w.heap.size w w3) => del_calls (H.out.below hb).own hlt hll)
      have d1 : IntKind.i64.wrap ((k : Int) + 1) = (k : Int) + 1 := IntWalk.i64_in _ (by omega)
      have d2 : wrap64 ((k : Int) + 1) = (k : Int) + 1 := (i64_w _).symm.trans d1
      go_enter Try.func38, Try.ntmps38
      go_wp2_with (first
        | (go_at_call 40; (with_reducible refine FC.out.mono ?_); rintro e w3 ⟨rfl, hb3⟩; have hc3 := HT.out w3 hb3; have e1 := e0.out w3 hb3; replace hb3 := Lib.hid hb3)
        | (go_at_call 47; (with_reducible refine (DC.out w3 hb3.out).mono ?_); rintro e w4 ⟨rfl, ho4, hc4⟩; obtain ⟨k1, k2, k3, k4⟩ := drop_end H.out hb3.out hlt ho4 hc4; replace k1 := Lib.hid k1; replace k2 := Lib.hid k2; clear ho4 hc4))
      go_ret
      exact ⟨by rw [hC.out]; rfl, by rw [hM.out hC.out]; exact k1.out, k2.out⟩
end Go.Proofs.Ytonlbeonblpblaa.All
