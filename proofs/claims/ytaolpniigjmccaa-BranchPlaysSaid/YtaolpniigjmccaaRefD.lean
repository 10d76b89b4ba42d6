/-
  The document's Drop in Go's memory: a new list is made, and the forest's head is turned to it. No condition but that the list lies as its rows say.
-/
import Derived.Test.YtaolpniigjmccaaRefW
namespace Go.Proofs.Ytaolpniigjmccaa.All
open Go.RowKit Go.Proofs.YtaolpniigjmccaaW.PrintWords Go.Proofs.YtaolpniigjmccaaW.PrintLast Go.Proofs.YtaolpniigjmccaaW.PrintMore Go.Proofs.Ytaolpniigjmccaa.Wd
theorem br_info : (Try.prog.info? 76).map (fun i => (i.zero, i.size, i.bytes)) = some (some (.agg #[.int .i64 0, .int .i64 0, .int .u64 0, .int .u64 0]), 4, 32) := by kernel_rfl
theorem own_empty (w : World) (base : Nat) (e : TypeId) (size : Nat) (hb : base ≤ w.heap.size) : (w.alloc (.cells #[] e)).ownsRow base e size (.slice (some ⟨w.heap.size, 0, none⟩) 0 0) 0 [] :=
  ⟨by simp, .inr ⟨w.heap.size, 0, #[], rfl, hb, heap_alloc_new w _, Nat.le_refl _, Nat.zero_le _, by simp, by simp⟩⟩
theorem _root_.Go.Proofs.Ytaolpniigjmccaa.Wd.Reads.take {w : World} {B size n i : Nat} {A : Option Addr} {xs : List Value} (h : Reads w B size A n xs) (hi : i ≤ n) : Reads w B size A i (xs.take (i * size)) := by
  refine ⟨?_, fun h0 => ?_⟩
  · rw [List.length_take, h.1]
    exact Nat.min_eq_left (Nat.mul_le_mul_right _ hi)
  · obtain ⟨ad, rfl, hb, hc⟩ := h.2 (by omega)
    refine ⟨ad, rfl, hb, fun j u hu => hc j u ?_⟩
    rw [List.getElem?_take] at hu
    split at hu
    · exact hu
    · cases hu
theorem XAt.reads {w : World} {g : Nat} {A : Option Addr} {c : Nat} {X : List Br} (h : XAt w g A c X) : Reads w w.heap.size 4 A X.length (brcs X) := by
  refine ⟨brcs_len X, fun h0 => ?_⟩
  obtain ⟨blk, cs, h1, h2, h3⟩ := h.row (fun e => by rw [e] at h0; exact absurd h0 (Nat.lt_irrefl _))
  refine ⟨_, h1, (Array.getElem?_eq_some_iff.1 h2).1, fun j u hu => ?_⟩
  have e : Addr.add ⟨blk, 0, none⟩ j = ⟨blk, j, none⟩ := by
    unfold Addr.add
    split
    · subst_vars; rfl
    · simp
  rw [e, cell_of_row w blk j cs _ (0, 0) h2]
  exact h3 _ _ hu
theorem brcs_one : ∀ (X : List Br), ∀ u ∈ brcs X, u.oneCell' = true
  | [], u, h => by cases h
  | x :: l, u, h => by
    have h : u ∈ brc x ++ brcs l := h
    rcases List.mem_append.1 h with h | h
    · unfold brc at h
      simp only [List.mem_cons, List.not_mem_nil, or_false] at h
      rcases h with rfl | rfl | rfl | rfl <;> rfl
    · exact brcs_one l u h
theorem keepS {w w' : World} {g B : Nat} {v : Value} (h : w.cell? { block := g, off := 0 } = some v ∧ w.frozen? { block := g, off := 0 } = false) (hg : g < B) (hh : ∀ k, k < B → w'.heap[k]? = w.heap[k]?) :
    w'.cell? { block := g, off := 0 } = some v ∧ w'.frozen? { block := g, off := 0 } = false :=
  ⟨(World.cell?_of_block (hh g hg)).trans h.1, (World.frozen?_of_block (hh g hg)).trans h.2⟩
theorem own_xat {w : World} {base g : Nat} {v v0 : Value} {X : List Br} (h : w.ownsRow base 76 4 v X.length (brcs X)) (hg : w.heap[g]? = some (.cells #[v0] 47)) :
    ∃ A c, v = .slice A X.length c ∧ XAt (w.setCell { block := g, off := 0 } v) g A c X := by
  have hh : (w.setCell { block := g, off := 0 } v).heap[g]? = some (.cells #[v] 47) := by
    simp [World.setCell, Array.getElem?_modify, hg]
  rcases h.2 with ⟨rfl, hn⟩ | ⟨b, cap, cur, rfl, _, hb, hc, _, hs, ht⟩
  · skip
    have hX : X = [] := List.eq_nil_of_length_eq_zero hn
    subst hX
    exact ⟨none, 0, rfl, hh, Nat.le_refl _, fun hne => absurd rfl hne⟩
  · refine ⟨_, cap, rfl, hh, hc, fun _ => ⟨b, cur, rfl, ?_, fun j u hu => ?_⟩⟩
    · have hne : b ≠ g := by
        rintro rfl
        rw [hb] at hg
        injection hg with hg
        injection hg with _ hg
        exact absurd hg (by decide)
      exact (Below.heap_setCell w _ _ b hne).trans hb
    · rw [← ht, List.getElem?_take] at hu
      split at hu
      · simpa using hu
      · cases hu
theorem own_slice {w : World} {base e size n : Nat} {v : Value} {xs : List Value} (h : w.ownsRow base e size v n xs) : ∃ A c, v = .slice A n c := by
  rcases h.2 with ⟨rfl, rfl⟩ | ⟨b, cap, cur, rfl, _⟩
  · exact ⟨_, _, rfl⟩
  · exact ⟨_, _, rfl⟩
theorem new_list {w w2 : World} {g n m c c2 : Nat} {A A2 : Option Addr} {X Y : List Br} {xs : List Value} (h : w2.ownsRow w.heap.size 76 4 (.slice A2 n c2) n xs) (hlen : Y.length = n) (hcs : brcs Y = xs) (hm : m = n) (hb : Below w.heap.size w w2) (hg : w.heap[g]? = some (.cells #[.slice A X.length c] 47)) :
    (∃ A' c', XAt (w2.setCell { block := g, off := 0 } (.slice A2 m c2)) g A' c' Y) ∧ Chg (· = g) w (w2.setCell { block := g, off := 0 } (.slice A2 m c2)) := by
  subst hm hlen hcs
  obtain ⟨A', c', he, hx⟩ := own_xat h ((hb.block g (Array.getElem?_eq_some_iff.1 hg).1).trans hg)
  exact ⟨⟨A', c', hx⟩, Chg.setCell (S := (· = g)) (Chg.of_below hb) (p := { block := g, off := 0 }) (show g = g from rfl) _⟩
def RDropPost (F : List Tw) (g : Nat) (id : Int) (w : World) (e : Ending) (w' : World) : Prop := e = .returned (.int .i64 (dropC F id)) ∧ (∃ A c, XAt w' g A c (refL (dropF F id))) ∧ Chg (· = g) w w'
theorem rdrop_same {F : List Tw} {g c : Nat} {A : Option Addr} {id : Int} {w : World} (h : XAt w g A c (refL F)) {k : Int} (hc : dropC F id = k) (hn : k ≠ 0) : RDropPost F g id w (.returned (.int .i64 k)) w :=
  ⟨ret_i hc.symm, ⟨A, c, by rw [drop_no (by rw [hc]; exact hn)]; exact h⟩, Chg.refl _ _⟩
theorem ref_cut {F : List Tw} (ok : Ok F) {id : Int} (hs : isSon F id = true) : refL (F.set id.toNat tz) = (refL F).take (pos F id.toNat) ++ (refL F).drop (pos F id.toNat + 1) := by
  obtain ⟨h1, h2, h3, h4, h5⟩ := son_parts hs
  obtain ⟨k, rfl⟩ : ∃ k : Nat, id = (k : Int) := ⟨id.toNat, by omega⟩
  obtain ⟨t, e1, e2⟩ := ref_out ok.len (by omega) h5
  rw [Int.toNat_natCast, e2, e1]
  unfold pos
  rw [List.take_left, List.drop_append, List.drop_of_length_le (by omega), show (ref F k).length + 1 - (ref F k).length = 1 by omega]
  rfl
theorem brcs_take : ∀ (X : List Br) (k : Nat), (brcs X).take (k * 4) = brcs (X.take k)
  | _, 0 => by simp [brcs]
  | [], k + 1 => by simp [brcs]
  | x :: l, k + 1 => by
    show (brc x ++ brcs l).take _ = brc x ++ brcs (l.take k)
    rw [List.take_append, show (brc x).length = 4 from rfl, show (k + 1) * 4 - 4 = k * 4 by omega, brcs_take l k, List.take_of_length_le (by show 4 ≤ _; omega)]
theorem brcs_drop : ∀ (X : List Br) (k : Nat), (brcs X).drop (k * 4) = brcs (X.drop k)
  | _, 0 => by simp
  | [], k + 1 => by simp [brcs]
  | x :: l, k + 1 => by
    show (brc x ++ brcs l).drop _ = brcs (l.drop k)
    rw [List.drop_append, show (brc x).length = 4 from rfl, show (k + 1) * 4 - 4 = k * 4 by omega, brcs_drop l k, List.drop_of_length_le (by show 4 ≤ _; omega)]
    rfl
set_option maxRecDepth 100000 in
set_option maxHeartbeats 2000000 in
theorem rdrop_done {X : List Br} {g c : Nat} {A : Option Addr} {w : World} (h : XAt w g A c X) (id : Int) (k : Nat) (hz : (id == 0) = false) (hlt : k < X.length) (hl : X.length ≤ 16)
    (FC : Calls Try.prog 34 #[.pointer (some ⟨g, 0, none⟩), .int .i64 id] w fun e w' => e = .returned (.int .i64 (k : Int)) ∧ w = w')
    (KC : Calls Try.prog 35 #[.pointer (some ⟨g, 0, none⟩), .int .i64 id] w fun e w' => e = .returned (.int .i64 0) ∧ w = w') :
    Calls Try.prog 30 #[.pointer (some ⟨g, 0, none⟩), .int .i64 id] w fun e w' => e = .returned (.int .i64 0) ∧ (∃ A' c', XAt w' g A' c' (X.take k ++ X.drop (k + 1))) ∧ Chg (· = g) w w' := by
  obtain ⟨i0, hi, hz0, hz1, hz2⟩ := info_parts br_info
  have hc := h.cell
  have hfr := h.frozen
  have hglt := h.lt
  have hcap := h.cap
  have hhd := Lib.hid h.head
  have hR := h.reads
  have hlen : (X.take k ++ X.drop (k + 1)).length = 0 + k + (X.length - (k + 1)) := by rw [List.length_append, List.length_take, List.length_drop]; omega
  have hcs : brcs (X.take k ++ X.drop (k + 1)) = [] ++ (brcs X).take (k * 4) ++ (brcs X).drop ((k + 1) * 4) := by rw [brcs_append, brcs_take, brcs_drop]; rfl
  have hR1 := Lib.hid (hR.take (i := k) (by omega))
  have hR2 := Lib.hid (hR.cut (k := k + 1) (cap := c) (by omega) (by omega))
  have o1 := Lib.hid (fun u (hu : u ∈ (brcs X).take (k * 4)) => brcs_one X u (List.mem_of_mem_take hu))
  have o2 := Lib.hid (fun u (hu : u ∈ (brcs X).drop ((k + 1) * 4)) => brcs_one X u (List.mem_of_mem_drop hu))
  replace hlen := Lib.hid hlen
  replace hcs := Lib.hid hcs
  replace FC := Lib.hid FC
  replace KC := Lib.hid KC
  have hi' := Lib.hid hi
  have hx1 := Lib.hid (show 0 + k ≤ maxLen ∧ (0 + k) * 32 ≤ 140737488355328 ∧ 0 + k + (X.length - (k + 1)) ≤ maxLen ∧ (0 + k + (X.length - (k + 1))) * 32 ≤ 140737488355328 by unfold maxLen; omega)
  clear hR hi
  have b0 : (0 : Int) ≤ (k : Int) := by omega
  have b1 : (k : Int) ≤ (c : Int) := by omega
  have b2 : IntKind.i64.wrap ((k : Int) + 1) = (k : Int) + 1 := by rw [i64_w]; unfold wrap64; omega
  have b3 : (0 : Int) ≤ (k : Int) + 1 := by omega
  have b4 : (k : Int) + 1 ≤ (X.length : Int) := by omega
  have b5 : (k : Int) + 1 ≤ (c : Int) := by omega
  have b6 : ((k : Int) + 1).toNat = k + 1 := by omega
  replace h := Lib.hid h
  go_enter Try.func30, Try.ntmps30
  go_upto_region 8 with (first | (go_at_call 34; refine FC.out.mono ?_; rintro e w' ⟨rfl, rfl⟩) | (go_at_call 35; refine KC.out.mono ?_; rintro e w' ⟨rfl, rfl⟩))
  go_region_law
    ((first
      | (refine step_append_any _ rfl (.tmp 18) (.tmp 24) 45 rfl w.heap.size 76 i0 _ 4 32 Try.underlying45 hi'.out hz0 hz1 hz2 rfl (by decide) (.slice (some ⟨w.heap.size, 0, none⟩) 0 0) 0 [] rfl (own_empty w _ _ _ (Nat.le_refl _)) w.heap.size A k c ((brcs X).take (k * 4)) rfl (hR1.out.alloc (Nat.le_refl _) _) o1.out hx1.out.1 hx1.out.2.1 (by simp) ?_
         intro v1 w1 ho1 hg1 ha1
         have hb1 : Below w.heap.size w w1 := Below.grown (w := (w.alloc (.cells #[] 76)).drew) (below_drew (below_alloc (Below.refl w.heap.size w) (.cells #[] 76))) hg1 (by simp) (fun k e => by simp [Value.ownBlock] at e; omega)
         obtain ⟨hc1, hf1⟩ := keepS ⟨hc, hfr⟩ hglt hb1.block)
      | (refine step_append_any _ rfl (.tmp 25) (.tmp 32) 45 rfl w.heap.size 76 i0 _ 4 32 Try.underlying45 hi'.out hz0 hz1 hz2 rfl (by decide) v1 (0 + k) ([] ++ (brcs X).take (k * 4)) rfl ho1 w.heap.size _ (X.length - (k + 1)) (c - (k + 1)) ((brcs X).drop ((k + 1) * 4)) rfl (hR2.out.below hb1) o2.out hx1.out.2.2.1 hx1.out.2.2.2 hb1.size ?_
         intro v2 w2 ho2 hg2 ha2
         obtain ⟨A2, c2, rfl⟩ := own_slice ho2
         have hb2 : Below w.heap.size w w2 := hb1.grown hg2 hb1.size (own_base ho1)
         obtain ⟨hc2, hf2⟩ := keepS ⟨hc, hfr⟩ hglt hb2.block)))
  all_goals
    go_wp2
    all_goals
      go_ret
      exact ⟨rfl, new_list (X := X) (A := A) (c := c) ho2 hlen.out hcs.out (by omega) hb2 hhd.out⟩
set_option maxRecDepth 100000 in
theorem rdrop_zero {g : Nat} {w : World} : Calls Try.prog 30 #[.pointer (some ⟨g, 0, none⟩), .int .i64 0] w fun e w' => e = .returned (.int .i64 7) ∧ w = w' := by
  go_enter Try.func30, Try.ntmps30
  go_wp2
  go_ret
  exact ⟨rfl, rfl⟩
set_option maxRecDepth 100000 in
theorem rdrop_none {g : Nat} {w : World} {id : Int} (hz : (id == 0) = false) (FC : Calls Try.prog 34 #[.pointer (some ⟨g, 0, none⟩), .int .i64 id] w fun e w' => e = .returned (.int .i64 (-1)) ∧ w = w') :
    Calls Try.prog 30 #[.pointer (some ⟨g, 0, none⟩), .int .i64 id] w fun e w' => e = .returned (.int .i64 4) ∧ w = w' := by
  replace FC := Lib.hid FC
  go_enter Try.func30, Try.ntmps30
  go_wp2_with (go_at_call 34; refine FC.out.mono ?_; rintro e w' ⟨rfl, rfl⟩)
  go_ret
  exact ⟨rfl, rfl⟩
set_option maxRecDepth 100000 in
theorem rdrop_busy {g : Nat} {w : World} {id : Int} {i k : Nat} (hz : (id == 0) = false) (hk : 0 < k) (FC : Calls Try.prog 34 #[.pointer (some ⟨g, 0, none⟩), .int .i64 id] w fun e w' => e = .returned (.int .i64 (i : Int)) ∧ w = w')
    (KC : Calls Try.prog 35 #[.pointer (some ⟨g, 0, none⟩), .int .i64 id] w fun e w' => e = .returned (.int .i64 (k : Int)) ∧ w = w') :
    Calls Try.prog 30 #[.pointer (some ⟨g, 0, none⟩), .int .i64 id] w fun e w' => e = .returned (.int .i64 12) ∧ w = w' := by
  replace FC := Lib.hid FC
  replace KC := Lib.hid KC
  have b0 : decide ((0 : Int) < (k : Int)) = true := decide_eq_true (by omega)
  go_enter Try.func30, Try.ntmps30
  go_wp2_with (first | (go_at_call 34; refine FC.out.mono ?_; rintro e w' ⟨rfl, rfl⟩) | (go_at_call 35; refine KC.out.mono ?_; rintro e w' ⟨rfl, rfl⟩))
  go_ret
  exact ⟨rfl, rfl⟩
theorem rdrop_is {F : List Tw} (ok : Ok F) {g c : Nat} {A : Option Addr} {w : World} (h : XAt w g A c (refL F)) (id : Int) :
    Calls Try.prog 30 #[.pointer (some ⟨g, 0, none⟩), .int .i64 id] w (RDropPost F g id w) := by
  have FC := rfind_is ok h id
  have KC := rkids_is ok h id
  by_cases hz : id = 0
  · subst hz
    exact rdrop_zero.mono fun e w' ⟨he, hw⟩ => by subst he hw; exact rdrop_same h (by unfold dropC; rw [if_pos rfl]) (by decide)
  have hz' : (id == 0) = false := by simpa using hz
  by_cases ha : aliveF F id = true
  · have hs := isSon_of ha hz
    rw [if_pos hs] at FC
    have hlt := (List.getElem?_eq_some_iff.1 (ref_son hs)).1
    by_cases hk : kidsF F id = 0
    · rw [hk] at KC
      have hd : dropC F id = 0 := by unfold dropC; rw [if_neg hz, if_neg (by rw [ha]; decide), if_neg (by omega)]
      have := rdrop_done h id _ hz' hlt (refL_len F) FC KC
      rw [← ref_cut ok hs] at this
      exact this.mono fun e w' ⟨he, hx, hc⟩ => by
        refine ⟨he.trans (ret_i hd.symm), ?_, hc⟩
        unfold dropF
        rw [if_pos hd]
        exact hx
    · exact (rdrop_busy hz' (by omega) FC KC).mono fun e w' ⟨he, hw⟩ => by
        subst he hw
        exact rdrop_same h (by unfold dropC; rw [if_neg hz, if_neg (by rw [ha]; decide), if_pos (by omega)]) (by decide)
  · rw [if_neg (fun hs => ha (son_parts hs).1)] at FC
    exact (rdrop_none hz' FC).mono fun e w' ⟨he, hw⟩ => by
      subst he hw
      exact rdrop_same h (by unfold dropC; rw [if_neg hz, if_pos (by simpa using ha)]) (by decide)
end Go.Proofs.Ytaolpniigjmccaa.All
