/-
  The example that every law of chapter 36 asks first is as the document tells. No condition.
-/
import Derived.Test.YtonlbeonblpblaaTill
namespace Go.Proofs.Ytonlbeonblpblaa.All
open Go.RowKit Go.Proofs.YtonlbeonblpblaaW.PrintWords Go.Proofs.YtonlbeonblpblaaW.PrintLast Go.Proofs.YtonlbeonblpblaaW.PrintMore Go.Proofs.Ytonlbeonblpblaa.Wd
set_option linter.unusedVariables false
set_option linter.unusedSimpArgs false
private theorem ym (motive : Option Value → Sort _) (h1 : (b : Bool) → motive (some (.bool b))) (h2 : (x : Option Value) → motive x) : Go.yielded.match_1 motive (some undef) h1 h2 = h2 (some undef) := rfl
attribute [local go_sem, local simp] ym
theorem own_tk {base b : Nat} {w w2 : World} {kb e size n : Nat} {v : Value} {xs : List Value} {hv : Value} (h : w.ownsRow kb e size v n xs) (t : TK base b w w2) (hb : w.heap[b]? = some (.cells #[hv] 83)) (he : e ≠ 80) (he2 : e ≠ 83) : w2.ownsRow kb e size v n xs :=
  ⟨h.1, h.2.imp id fun ⟨g, cap, cur, e1, e2, e3, e4⟩ => ⟨g, cap, cur, e1, e2, t.kind g _ e3 (heap_ne e3 hb (fun h => by injection h with _ h; exact he2 h)) (fun c h => by injection h with _ h; exact he h), e4⟩⟩
theorem KAt.tk {base b : Nat} {w w2 : World} {kb : Nat} {A : Option Addr} {c : Nat} {ks : List (Ru × Nat)} {hv : Value} (h : KAt w kb A c ks) (t : TK base b w w2) (hb : w.heap[b]? = some (.cells #[hv] 83)) : KAt w2 kb A c ks :=
  ⟨own_tk h.own t hb (by decide) (by decide), fun p hp => t.kind _ _ (h.bx p hp) (heap_ne (h.bx p hp) hb (by simp)) (fun cur h => by injection h with _ h; exact absurd h (by decide))⟩
/-- What a law keeps: the table, a calendar, what was there. -/
structure KT (w wr : World) (base b : Nat) (M : List It) (kb : Nat) (A : Option Addr) (c : Nat) (ks : List (Ru × Nat)) : Prop where
  t : ∃ A c, TAt wr base b A c M
  k : KAt wr kb A c ks
  bel : Below w.heap.size w wr
  l1 : w.heap.size ≤ base
  l2 : w.heap.size ≤ b
  l3 : base ≤ wr.heap.size
theorem KT.below {w wr w2 : World} {base b : Nat} {M : List It} {kb : Nat} {A : Option Addr} {c : Nat} {ks : List (Ru × Nat)} (h : KT w wr base b M kb A c ks) (hb : Below wr.heap.size wr w2) : KT w w2 base b M kb A c ks :=
  ⟨let ⟨A, c, ht⟩ := h.t; ⟨A, c, ht.below hb⟩, h.k.below hb, h.bel.trans (hb.mono h.bel.size), h.l1, h.l2, Nat.le_trans h.l3 hb.size⟩
theorem KT.tk {w wr w2 : World} {base b : Nat} {M M2 : List It} {kb : Nat} {A : Option Addr} {c : Nat} {ks : List (Ru × Nat)} (h : KT w wr base b M kb A c ks) (t : TK base b wr w2) (ht : ∃ A c, TAt w2 base b A c M2) : KT w w2 base b M2 kb A c ks :=
  ⟨ht, let ⟨_, _, h0⟩ := h.t; h.k.tk t h0.head, t.below h.bel h.l1 h.l2 h.bel.size, h.l1, h.l2, Nat.le_trans h.l3 t.size⟩
theorem KT.add {w wr : World} {base b : Nat} {M : List It} {kb : Nat} {A : Option Addr} {c : Nat} {ks : List (Ru × Nat)} (h : KT w wr base b M kb A c ks) (hl : M.length ≤ 1000) (num m : Int) :
    Calls Try.prog 26 #[.pointer (some ⟨b, 0, none⟩), .int .u64 num, .int .i64 m] wr fun e w' => e = .returned (.int .i64 (addC M num m)) ∧ KT w w' base b (addM M num m) kb A c ks ∧ TK base b wr w' := by
  obtain ⟨A', c', ht⟩ := h.t
  exact (add_calls ht num m hl h.l3).mono fun e w' ⟨he, hx, hk⟩ => ⟨he, h.tk hk hx, hk⟩
theorem KT.till {w wr : World} {base b : Nat} {M : List It} {kb : Nat} {A : Option Addr} {c : Nat} {ks : List (Ru × Nat)} {N : Int × Bool} (h : KT w wr base b M kb A c ks) (g : Good M) (hl : ks.length ≤ 16) (hf : ∀ p ∈ ks, 0 ≤ p.1.f ∧ p.1.f ≤ 1073741824) (hN : 0 ≤ N.1 ∧ N.1 ≤ 1073741824) (num : Int) :
    Calls Try.prog 16 #[.agg #[.slice A ks.length c, .int .i64 N.1, .bool N.2], .pointer (some ⟨b, 0, none⟩), .int .u64 num] wr fun e w' => e = .returned (.int .i64 (tillF M num N (ks.map (·.1)))) ∧ Below wr.heap.size wr w' := by
  obtain ⟨A', c', ht⟩ := h.t
  exact till_calls g ht h.k hl hf hN num
def L0 : List Ru := [⟨1, 0, 60⟩, ⟨2, 10, 100⟩]
def M2 : List It := [⟨1, 12, false⟩, ⟨2, 17, false⟩]
theorem good2 : Good M2 := by
  refine ⟨fun i j hi hj h => ?_, fun x hx => ?_, by decide⟩
  · have hi : i < 2 := hi
    have hj : j < 2 := hj
    obtain rfl : i = 0 := by omega
    obtain rfl : j = 1 := by omega
    show (1 : Int) < 2
    decide
  · unfold M2 at hx
    simp only [List.mem_cons, List.not_mem_nil, or_false] at hx
    rcases hx with rfl | rfl <;> decide
theorem row0 {w : World} : RuRow (w.alloc (.cells #[.int .i64 1, .int .i64 0, .int .i64 60, .int .i64 2, .int .i64 10, .int .i64 100] 24)) (w.alloc (.cells #[.int .i64 1, .int .i64 0, .int .i64 60, .int .i64 2, .int .i64 10, .int .i64 100] 24)).heap.size (some ⟨w.heap.size, 0, none⟩) L0 := fun _ => by
  have h := heap_alloc_new w (.cells #[.int .i64 1, .int .i64 0, .int .i64 60, .int .i64 2, .int .i64 10, .int .i64 100] 24)
  refine ⟨_, rfl, by simp, fun i hi => ?_⟩
  have hi : i < 2 := hi
  have e1 : Addr.add ⟨w.heap.size, 0, none⟩ (i * 3) = ⟨w.heap.size, i * 3, none⟩ := by
    unfold Addr.add
    split
    · rename_i e0; rw [e0]
    · simp
  obtain rfl | rfl : i = 0 ∨ i = 1 := by omega
  · exact ⟨by rw [e1]; exact cell_of_row _ _ 0 _ _ (0, 0) h, by rw [e1]; exact cell_of_row _ _ 1 _ _ (0, 0) h, by rw [e1]; exact cell_of_row _ _ 2 _ _ (0, 0) h⟩
  · exact ⟨by rw [e1]; exact cell_of_row _ _ 3 _ _ (0, 0) h, by rw [e1]; exact cell_of_row _ _ 4 _ _ (0, 0) h, by rw [e1]; exact cell_of_row _ _ 5 _ _ (0, 0) h⟩
set_option maxRecDepth 100000 in
set_option maxHeartbeats 2000000 in
theorem awake_calls (w : World) : Calls Try.prog 11 #[] w fun e w' => e = .returned (.bool true) ∧ Below w.heap.size w w' := by
  have CC := Lib.hid (compile_ok (c0 := 2) (row0 (w := w)) (by decide) (fun r hr => by
    unfold L0 at hr
    simp only [List.mem_cons, List.not_mem_nil, or_false] at hr
    rcases hr with rfl | rfl <;> decide))
  go_enter Try.func11, Try.ntmps11
  go_upto_region 2 with (go_at_call 14; refine CC.out.mono ?_; rintro e w3 ⟨A, c, ks, rfl, hk3, hm3, hb3⟩; have HB3 := Lib.hid (below_alloc (Below.refl _ w) _ |>.trans (hb3.mono (by simp))); replace hk3 := Lib.hid hk3; replace hm3 := Lib.hid hm3; clear hb3; rw [show neverF L0 = (0, false) from rfl])
  have hkl : ks.length = 2 := by
    have := congrArg List.length hm3.out
    rwa [List.length_map] at this
  have HKL := Lib.hid hkl
  have hfk := Lib.hid (show ∀ p ∈ ks, 0 ≤ p.1.f ∧ p.1.f ≤ 1073741824 from fun p hp => by
    have h : p.1 ∈ ksOf L0 := by rw [← hm3.out]; exact List.mem_map_of_mem hp
    have h : p.1 ∈ L0 := h
    unfold L0 at h
    simp only [List.mem_cons, List.not_mem_nil, or_false] at h
    rcases h with h | h <;> rw [h] <;> decide)
  clear hkl CC
  go_upto_region 3 with (go_at_call 28; refine (new_calls _).mono ?_; rintro e w4 ⟨rfl, ht4, hb4⟩; have H4 := Lib.hid (show KT w w4 _ _ [] _ A c ks from ⟨⟨_, _, ht4⟩, (hk3.out.below (below_alloc (Below.refl _ _) (.cells #[.slice A ks.length c, .int .i64 0, .bool false] 32))).below hb4, (HB3.out.trans (Below.mono (below_alloc (Below.refl _ _) (.cells #[.slice A ks.length c, .int .i64 0, .bool false] 32)) HB3.out.size)).trans (hb4.mono (Nat.le_trans HB3.out.size (by simp))), Nat.le_trans HB3.out.size (by simp), Nat.le_trans HB3.out.size (by simp), hb4.size⟩); have hx4 := (hb4.block w3.heap.size (by simp)).trans (heap_alloc_new w3 (.cells #[.slice A ks.length c, .int .i64 0, .bool false] 32)); replace hx4 := Lib.hid hx4; clear ht4 hb4)
  rw [World.size_alloc] at H4
  obtain ⟨b, hbb⟩ : ∃ b, w3.heap.size + 1 = b := ⟨_, rfl⟩
  have hneb : w3.heap.size ≠ b := by omega
  rw [hbb] at H4
  rw [hbb]
  have A1 := (H4.out.add (by decide) 1 12)
  rw [show addC [] 1 12 = 0 from rfl, show addM [] 1 12 = [⟨1, 12, false⟩] by unfold addM; rw [show addC [] 1 12 = 0 from rfl]; rfl] at A1
  replace A1 := Lib.hid A1
  have TV1 : tillF M2 1 (0, false) L0 = 72 := by kernel_rfl
  have TV2 : tillF M2 2 (0, false) L0 = 117 := by
    have e1 : raw M2 2 (0, false) L0 = [77, 117] := by kernel_rfl
    unfold tillF minsF
    rw [if_pos (show hit M2 2 = true by kernel_rfl), e1, List.mergeSort_of_pairwise (by decide)]
    show (Lib.compact ([77, 117] : List Int)).getLastD 0 = 117
    kernel_rfl
  have TC := Lib.hid (fun (kb : Nat) (wr : World) (num v : Int) (hv : tillF M2 num (0, false) L0 = v) (h : KT w wr b b M2 kb A c ks) => (by
    have := h.till (N := (0, false)) good2 (by rw [HKL.out]; decide) hfk.out (by decide) num
    rw [hm3.out, show ksOf L0 = L0 from rfl, hv] at this
    exact this : Calls Try.prog 16 #[.agg #[.slice A ks.length c, .int .i64 0, .bool false], .pointer (some ⟨b, 0, none⟩), .int .u64 num] wr fun e w' => e = .returned (.int .i64 v) ∧ Below wr.heap.size wr w'))
  clear hfk hm3 hk3 HKL
  replace TV1 := Lib.hid TV1
  replace TV2 := Lib.hid TV2
  go_wp2_with (first
    | (go_at_call 26; (with_reducible refine A1.out.mono ?_); rintro e w5 ⟨rfl, h5, t5⟩; have hx5 := t5.kind _ _ hx4.out hneb (fun cur h => by injection h with _ h; exact absurd h (by decide)); have A2 := h5.add (by decide) 2 17; rw [show addC [⟨1, 12, false⟩] 2 17 = 0 from rfl, show addM [⟨1, 12, false⟩] 2 17 = M2 by unfold addM; rw [show addC [⟨1, 12, false⟩] 2 17 = 0 from rfl]; rfl] at A2; replace A2 := Lib.hid A2; replace hx5 := Lib.hid hx5; clear h5 t5)
    | (go_at_call 26; refine A2.out.mono ?_; rintro e w6 ⟨rfl, h6, t6⟩; have hx6 := t6.kind _ _ hx5.out hneb (fun cur h => by injection h with _ h; exact absurd h (by decide)); have y0 := cell_of_row w6 w3.heap.size 0 _ _ (0, 0) hx6; have y1 := cell_of_row w6 w3.heap.size 1 _ _ (0, 0) hx6; have y2 := cell_of_row w6 w3.heap.size 2 _ _ (0, 0) hx6; simp only [List.size_toArray, List.getElem?_toArray, List.getElem?_cons_zero, List.getElem?_cons_succ] at y0 y1 y2; replace hx6 := Lib.hid hx6; replace h6 := Lib.hid h6; clear t6)
    | (go_at_call 16; (with_reducible refine (TC.out _ _ 1 72 TV1.out h6.out).mono ?_); rintro e w7 ⟨rfl, hb7⟩; have hx7 := (hb7.block _ (lt_heap hx6.out)).trans hx6.out; clear y0 y1 y2; have y0 := cell_of_row w7 w3.heap.size 0 _ _ (0, 0) hx7; have y1 := cell_of_row w7 w3.heap.size 1 _ _ (0, 0) hx7; have y2 := cell_of_row w7 w3.heap.size 2 _ _ (0, 0) hx7; simp only [List.size_toArray, List.getElem?_toArray, List.getElem?_cons_zero, List.getElem?_cons_succ] at y0 y1 y2; replace hx7 := Lib.hid hx7; have h7 := Lib.hid (h6.out.below hb7); clear hb7)
    | (go_at_call 16; refine (TC.out _ _ 2 117 TV2.out h7.out).mono ?_; rintro e w8 ⟨rfl, hb8⟩; have h8 := Lib.hid (h7.out.below hb8); clear hb8))
  go_ret
  exact ⟨rfl, h8.out.bel⟩
end Go.Proofs.Ytonlbeonblpblaa.All
