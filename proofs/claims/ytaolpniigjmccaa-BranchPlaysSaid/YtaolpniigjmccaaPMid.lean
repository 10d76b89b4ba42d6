/-
  The document's Fork, Free, Copy, Nums, and an act by both forests. No condition but that both lie as their rows say.
-/
import Derived.Test.YtaolpniigjmccaaRefD
import Derived.Test.YtaolpniigjmccaaKeep
namespace Go.Proofs.Ytaolpniigjmccaa.Wd
open Go
set_option linter.unusedVariables false
section
variable {P : Program} {ops : Array Oper} {Q : Exit → Act → World → Prop} {md : Region.Mode} {S : World → Prop} {z : Nat}
/-- Whatever order is picked, and S behind every operation but z. -/
def wpAnyZ (P : Program) (md : Region.Mode) (ops : Array Oper) (Q : Exit → Act → World → Prop) (S : World → Prop) (z : Nat) : Nat → Array Bool → Act → World → Prop
  | 0, listed, a, w => Region.ready md ops listed = [] ∧ Q .normal a w
  | fuel + 1, listed, a, w =>
    (Region.ready md ops listed = [] → Q .normal a w) ∧
    ∀ i ∈ Region.ready md ops listed, wpOp P ops Q i (fun a' w' => (i ≠ z → S w') ∧ wpAnyZ P md ops Q S z fuel (listed.setIfInBounds i true) a' w') a w
theorem wpAny_of_z : ∀ (fuel : Nat) (listed : Array Bool) (a : Act) (w : World), wpAnyZ P md ops Q S z fuel listed a w → wpAny P md ops Q fuel listed a w
  | 0, _, _, _, h => h
  | fuel + 1, _, _, _, h => ⟨h.1, fun i hi => wpOp_mono (fun a' w' h' => wpAny_of_z fuel _ a' w' h'.2) (h.2 i hi)⟩
theorem wpAnyZ_first {i : Nat} {oi oz : Oper} {v : Value} (hi : ops[i]? = some oi) (hz : ops[z]? = some oz) (hiz : i ≠ z) (hzi : ∃ e ∈ oz.after, Region.binds md e = true ∧ e.on = i)
    (hsel : ∀ (j : Nat) (o : Oper) cs b, ops[j]? = some o → o.op ≠ .select cs b)
    (hQ : ∀ c a w, Q (.panic c) (a.put oi.dst v) w → Q (.panic c) a w) :
    ∀ (fuel : Nat) (listed : Array Bool) (a : Act) (w : World),
      (∀ j oj, ops[j]? = some oj → j ≠ i → listed.getD j true = false → (∀ e ∈ oj.after, Region.binds md e = true → e.on ≠ i) → oi.apart ops oj = true) →
      i ∈ Region.ready md ops listed → YieldsIf P ops S oi v a → S w →
      wpAnyZ P md ops Q S z fuel (listed.setIfInBounds i true) (a.put oi.dst v) w → wpAnyZ P md ops Q S z (fuel + 1) listed a w := by
  intro fuel
  induction fuel with
  | zero =>
    intro listed a w _ hr hy hS H
    refine ⟨fun h => (by rw [h] at hr; cases hr), fun j hj => ?_⟩
    by_cases hji : j = i
    · subst hji; exact hy.wpOp hi hS ⟨fun _ => hS, H⟩
    · have := ready_mono hj hji
      rw [H.1] at this
      cases this
  | succ fuel ih =>
    intro listed a w hfree hr hy hS H
    refine ⟨fun h => (by rw [h] at hr; cases hr), fun j hj => ?_⟩
    by_cases hji : j = i
    · subst hji; exact hy.wpOp hi hS ⟨fun _ => hS, H⟩
    · have h1 := H.2 j (ready_mono hj hji)
      obtain ⟨hjun, oj, hoj, hall⟩ := mem_ready.1 hj
      have hnot : ∀ e ∈ oj.after, Region.binds md e = true → e.on ≠ i := fun e he hb heq => by
        have h1 := hall e he hb
        have h0 := (mem_ready.1 hr).1
        rw [heq] at h1
        rcases Nat.lt_or_ge i listed.size with h' | h'
        · simp [h'] at h0 h1; rw [h0] at h1; cases h1
        · simp [Array.getElem?_eq_none h'] at h1
      have hjz : j ≠ z := by
        rintro rfl
        rw [hz] at hoj
        injection hoj with hoj
        subst hoj
        obtain ⟨e, he, hb, heq⟩ := hzi
        exact hnot e he hb heq
      have h2 := wpOp_putIf hoj (hfree j oj hoj hji hjun hnot) (fun cs b => hsel i oi cs b hi) (fun cs b => hsel j oj cs b hoj) hQ hy h1
      have hfree' : ∀ k ok, ops[k]? = some ok → k ≠ i → (listed.setIfInBounds j true).getD k true = false →
          (∀ e ∈ ok.after, Region.binds md e = true → e.on ≠ i) → oi.apart ops ok = true := fun k ok hk hki hun hno => by
        refine hfree k ok hk hki ?_ hno
        by_cases hjk : j = k
        · subst hjk; exact hjun
        · rw [getD_set_ne true hjk] at hun; exact hun
      refine wpOp_mono (fun a' w' h3 => ⟨h3.2.1, ih (listed.setIfInBounds j true) a' w' hfree' (ready_mono hr (Ne.symm hji)) h3.1 (h3.2.1 hjz) ?_⟩) h2
      rw [Array.setIfInBounds_comm _ _ hji]
      exact h3.2.2
theorem wpAnyZ_take {i : Nat} {oi oz : Oper} {v : Value} {fuel : Nat} {listed : Array Bool} {a : Act} {w : World} (hi : ops[i]? = some oi) (hz : ops[z]? = some oz) (hiz : i ≠ z) (hzi : (oz.after.any fun e => Region.binds md e && e.on == i) = true)
    (hs : Region.noSelect ops = true) (hf : Region.free md ops listed i = true) (hr : (Region.ready md ops listed).contains i = true)
    (hQ : ∀ c a w, Q (.panic c) (a.put oi.dst v) w → Q (.panic c) a w) (hy : YieldsIf P ops S oi v a) (hS : S w)
    (h : wpAnyZ P md ops Q S z fuel (listed.setIfInBounds i true) (a.put oi.dst v) w) : wpAnyZ P md ops Q S z (fuel + 1) listed a w :=
  wpAnyZ_first hi hz hiz (by
    rw [Array.any_eq_true'] at hzi
    obtain ⟨e, he, hb⟩ := hzi
    rw [Bool.and_eq_true, beq_iff_eq] at hb
    exact ⟨e, he, hb.1, hb.2⟩) (Region.noSelect_spec hs) hQ fuel listed a w (Region.free_spec hi hf) (by simpa using hr) hy hS h
theorem wpAnyZ_take1 (i : Nat) {oz : Oper} {fuel : Nat} {listed : Array Bool} {a : Act} {w : World} (hz : ops[z]? = some oz) (hiz : i ≠ z) (hzi : (oz.after.any fun e => Region.binds md e && e.on == i) = true)
    (hs : Region.noSelect ops = true) (hf : Region.free md ops listed i = true) (hr : (Region.ready md ops listed).contains i = true) (hQ : ∀ d v c a w, Q (.panic c) (a.put d v) w → Q (.panic c) a w) (hS : S w)
    (h : ∃ oi, ops[i]? = some oi ∧ ∃ v, YieldsIf P ops S oi v a ∧ wpAnyZ P md ops Q S z fuel (listed.setIfInBounds i true) (a.put oi.dst v) w) : wpAnyZ P md ops Q S z (fuel + 1) listed a w :=
  let ⟨_, hi, _, hy, h⟩ := h
  wpAnyZ_take hi hz hiz hzi hs hf hr (hQ _ _) hy hS h
theorem wpAnyZ_all {rs : List Nat} {fuel : Nat} {listed : Array Bool} {a : Act} {w : World} (hr : Region.ready md ops listed = rs) (hne : rs ≠ [])
    (h : ∀ i ∈ rs, wpOp P ops Q i (fun a' w' => (i ≠ z → S w') ∧ wpAnyZ P md ops Q S z fuel (listed.setIfInBounds i true) a' w') a w) : wpAnyZ P md ops Q S z (fuel + 1) listed a w :=
  ⟨fun h0 => absurd (hr ▸ h0) hne, hr ▸ h⟩
theorem wpAnyZ_done {listed : Array Bool} {a : Act} {w : World} (hr : Region.ready md ops listed = []) (h : Q .normal a w) : ∀ fuel, wpAnyZ P md ops Q S z fuel listed a w
  | 0 => ⟨hr, h⟩
  | _ + 1 => ⟨fun _ => h, by rw [hr]; simp⟩
theorem wp_region_z {id : Nat} {a : Act} {w : World} (hm : P.follows .mixedOrders = true)
    (h : wpAnyZ P .any ops Q S z ops.size (Array.replicate ops.size false) a { w with drawn := w.drawn + 1 }) : (Code.region id ops true).wp P Q a w :=
  wp_region_any hm (wpAny_of_z _ _ _ _ h)
/-- What may come up, each with S anew unless it is z. -/
def AllReadyZ (P : Program) (md : Region.Mode) (ops : Array Oper) (Q : Exit → Act → World → Prop) (S : World → Prop) (z fuel : Nat) (listed : Array Bool) (a : Act) (w : World) (rs : List Nat) : Prop :=
  ∀ i ∈ rs, wpOp P ops Q i (fun a' w' => (i ≠ z → S w') ∧ wpAnyZ P md ops Q S z fuel (listed.setIfInBounds i true) a' w') a w
theorem AllReadyZ.nil {fuel : Nat} {listed : Array Bool} {a : Act} {w : World} : AllReadyZ P md ops Q S z fuel listed a w [] := fun i hi => by cases hi
theorem AllReadyZ.cons {fuel : Nat} {listed : Array Bool} {a : Act} {w : World} {i : Nat} {o : Oper} {rs : List Nat} (ho : ops[i]? = some o)
    (h : ∀ K' : Act → World → Prop, Shut (∀ a w, (i ≠ z → S w) → ((i ≠ z → S w) → wpAnyZ P md ops Q S z fuel (listed.setIfInBounds i true) a w) → K' a w) → if Region.wanted o (yielded ops a.tmps) = true then Oper.wp P o a w K' Q else K' (a.put o.dst undef) w)
    (hs : AllReadyZ P md ops Q S z fuel listed a w rs) : AllReadyZ P md ops Q S z fuel listed a w (i :: rs) := fun j hj => by
  rcases List.mem_cons.1 hj with rfl | hj
  · exact wpOp_step ho (fun K' hK => h K' (fun a w hS hW => hK a w ⟨hS, hW hS⟩))
  · exact hs j hj
theorem AllReadyZ.cons1 {fuel : Nat} {listed : Array Bool} {a : Act} {w : World} {i : Nat} {rs : List Nat}
    (h : ∃ o, ops[i]? = some o ∧ ∀ K' : Act → World → Prop, Shut (∀ a w, (i ≠ z → S w) → ((i ≠ z → S w) → wpAnyZ P md ops Q S z fuel (listed.setIfInBounds i true) a w) → K' a w) → if Region.wanted o (yielded ops a.tmps) = true then Oper.wp P o a w K' Q else K' (a.put o.dst undef) w)
    (hs : AllReadyZ P md ops Q S z fuel listed a w rs) : AllReadyZ P md ops Q S z fuel listed a w (i :: rs) :=
  let ⟨_, ho, h⟩ := h
  AllReadyZ.cons ho h hs
theorem wpAnyZ_ready {rs : List Nat} {fuel : Nat} {listed : Array Bool} {a : Act} {w : World} (hr : Region.ready md ops listed = rs) (hne : rs ≠ [])
    (h : AllReadyZ P md ops Q S z fuel listed a w rs) : wpAnyZ P md ops Q S z (fuel + 1) listed a w := wpAnyZ_all hr hne h
/-- The beginning: S is shown of the world behind the draw, once, and handed on. -/
theorem wp_region_z_drew {id : Nat} {a : Act} {w : World} (hm : P.follows .mixedOrders = true) (hS : S w.drew)
    (h : S w.drew → wpAnyZ P .any ops Q S z ops.size (Array.replicate ops.size false) a w.drew) : (Code.region id ops true).wp P Q a w :=
  wp_region_z hm (h hS)
end
section
variable {P : Program} {ops : Array Oper} {Q : Exit → Act → World → Prop} {md : Region.Mode} {S : World → Prop}
theorem wpAnyH_take1 (i : Nat) {fuel : Nat} {listed : Array Bool} {a : Act} {w : World}
    (hs : Region.noSelect ops = true) (hf : Region.free md ops listed i = true) (hr : (Region.ready md ops listed).contains i = true) (hQ : ∀ d v c a w, Q (.panic c) (a.put d v) w → Q (.panic c) a w) (hS : S w)
    (h : ∃ oi, ops[i]? = some oi ∧ ∃ v, YieldsIf P ops S oi v a ∧ wpAnyH P md ops Q S fuel (listed.setIfInBounds i true) (a.put oi.dst v) w) : wpAnyH P md ops Q S (fuel + 1) listed a w :=
  let ⟨_, hi, _, hy, h⟩ := h
  wpAnyH_take hi hs hf hr (hQ _ _) hy hS h
theorem _root_.Go.AllReadyH.cons1 {fuel : Nat} {listed : Array Bool} {a : Act} {w : World} {i : Nat} {rs : List Nat}
    (h : ∃ o, ops[i]? = some o ∧ ∀ K' : Act → World → Prop, Shut (∀ a w, S w → (S w → wpAnyH P md ops Q S fuel (listed.setIfInBounds i true) a w) → K' a w) → if Region.wanted o (yielded ops a.tmps) = true then Oper.wp P o a w K' Q else K' (a.put o.dst undef) w)
    (hs : AllReadyH P md ops Q S fuel listed a w rs) : AllReadyH P md ops Q S fuel listed a w (i :: rs) :=
  let ⟨_, ho, h⟩ := h
  AllReadyH.cons ho h hs
end
/-! ### the same with the list of what has come up written out (the kernel weighs it anew at each step) -/
section
variable {P : Program} {ops : Array Oper} {Q : Exit → Act → World → Prop} {md : Region.Mode} {S : World → Prop}
theorem wpAnyH_takeL (i : Nat) (L' : Array Bool) {fuel : Nat} {listed : Array Bool} {a : Act} {w : World} (hl : listed.setIfInBounds i true = L')
    (hs : Region.noSelect ops = true) (hf : Region.free md ops listed i = true) (hr : (Region.ready md ops listed).contains i = true) (hQ : ∀ d v c a w, Q (.panic c) (a.put d v) w → Q (.panic c) a w) (hS : S w)
    (h : ∃ oi, ops[i]? = some oi ∧ ∃ v, YieldsIf P ops S oi v a ∧ wpAnyH P md ops Q S fuel L' (a.put oi.dst v) w) : wpAnyH P md ops Q S (fuel + 1) listed a w := by
  subst hl
  exact wpAnyH_take1 i hs hf hr hQ hS h
theorem wpAnyH_oneL (i : Nat) (L' : Array Bool) {fuel : Nat} {listed : Array Bool} {a : Act} {w : World} (hl : listed.setIfInBounds i true = L') (hr : Region.ready md ops listed = [i])
    (h : ∃ o, ops[i]? = some o ∧ ∀ K' : Act → World → Prop, Shut (∀ a w, S w → (S w → wpAnyH P md ops Q S fuel L' a w) → K' a w) → if Region.wanted o (yielded ops a.tmps) = true then Oper.wp P o a w K' Q else K' (a.put o.dst undef) w) : wpAnyH P md ops Q S (fuel + 1) listed a w := by
  subst hl
  exact wpAnyH_ready (rs := [i]) hr (by simp) (AllReadyH.cons1 h AllReadyH.nil)
theorem wp_region_heldL {id : Nat} {a : Act} {w : World} (L' : Array Bool) (hl : Array.replicate ops.size false = L') (n : Nat) (hn : ops.size = n) (hm : P.follows .mixedOrders = true) (hS : S w.drew)
    (h : S w.drew → wpAnyH P .any ops Q S n L' a w.drew) : (Code.region id ops true).wp P Q a w := by
  subst hl hn
  exact wp_region_held_drew hm hS h
end
end Go.Proofs.Ytaolpniigjmccaa.Wd
namespace Go.Proofs.Ytaolpniigjmccaa.All
open Go.RowKit Go.Proofs.YtaolpniigjmccaaW.PrintWords Go.Proofs.YtaolpniigjmccaaW.PrintLast Go.Proofs.YtaolpniigjmccaaW.PrintMore Go.Proofs.Ytaolpniigjmccaa.Wd
set_option linter.unusedVariables false
set_option linter.unusedSimpArgs false
theorem own_e (w : World) (base g : Nat) (e : TypeId) (size : Nat) (hb : base ≤ w.heap.size) (hg : g = w.heap.size) : (w.alloc (.cells #[] e)).ownsRow base e size (.slice (some ⟨g, 0, none⟩) 0 0) 0 [] := by
  subst hg
  exact own_empty w base e size hb
theorem below_via {B : Nat} {a X cur w' : World} {row : Option Nat} (hX : Below B a X) (hg : cur.grownBy w' row) (e1 : cur.heap = X.heap) (e2 : cur.os = X.os) (e3 : cur.tape = X.tape) (e4 : cur.output = X.output) (hB : B ≤ X.heap.size) (hr : ∀ k, row = some k → B ≤ k) : Below B a w' :=
  Below.grown (w := cur) ⟨e2.trans hX.os, e3.trans hX.tape, e4.trans hX.output, by rw [e1]; exact hX.size, fun k hk => by rw [e1]; exact hX.block k hk⟩ hg (by rw [e1]; exact hB) hr
theorem reads_blk {w : World} {q : Nat} {t : TypeId} {cs : Array Value} (h : w.heap[q]? = some (.cells cs t)) (hs : cs.size = 4) : Reads w (q + 1) 4 (some ⟨q, 0, none⟩) 1 cs.toList := by
  refine ⟨by simpa using hs, fun _ => ⟨_, rfl, Nat.lt_succ_self _, fun j u hu => ?_⟩⟩
  have e1 : Addr.add ⟨q, 0, none⟩ j = ⟨q, j, none⟩ := by
    unfold Addr.add
    split
    · subst_vars; rfl
    · simp
  rw [e1, cell_of_row _ _ j _ _ (0, 0) h]
  simpa using hu
theorem reads_blk' {w : World} {B q : Nat} {t : TypeId} {cs : Array Value} (h : w.heap[q]? = some (.cells cs t)) (hs : cs.size = 4) (hB : q < B := by omega) : Reads w B 4 (some ⟨q, 0, none⟩) 1 cs.toList := (reads_blk h hs).more hB
theorem own_mono {w : World} {base base' : Nat} {e : TypeId} {size n : Nat} {v : Value} {xs : List Value} (h : w.ownsRow base e size v n xs) (hb : base' ≤ base) : w.ownsRow base' e size v n xs :=
  ⟨h.1, h.2.imp id fun ⟨g, cap, cur, e1, e2, e3⟩ => ⟨g, cap, cur, e1, Nat.le_trans hb e2, e3⟩⟩
theorem cells4 {w : World} {q : Nat} {t : TypeId} {a b c d : Value} (h : w.heap[q]? = some (.cells #[a, b, c, d] t)) : w.cell? { block := q, off := 0 } = some a ∧ w.cell? { block := q, off := 1 } = some b ∧ w.cell? { block := q, off := 2 } = some c ∧ w.cell? { block := q, off := 3 } = some d :=
  ⟨cell_of_row w q 0 _ _ (0, 0) h, cell_of_row w q 1 _ _ (0, 0) h, cell_of_row w q 2 _ _ (0, 0) h, cell_of_row w q 3 _ _ (0, 0) h⟩
set_option maxRecDepth 100000 in
set_option maxHeartbeats 2000000 in
theorem rfork_done {P T : List Br} {g c : Nat} {A : Option Addr} {w : World} (h : XAt w g A c (P ++ T)) (id p b n pn : Int) (hi0 : 1 ≤ id) (hi1 : id < 16) (hb : pn ≤ b) (hn : b < n) (hl : (P ++ T).length ≤ 16)
    (hP : ∀ x ∈ P, x.id < id) (hT : ∀ x ∈ T, id < x.id)
    (al : Int → Bool) (ha0 : al id = false) (ha1 : al p = true) (AC : ∀ j, Calls Try.prog 29 #[.pointer (some ⟨g, 0, none⟩), .int .i64 j] w fun e w' => e = .returned (.bool (al j)) ∧ w = w')
    (NC : Calls Try.prog 36 #[.pointer (some ⟨g, 0, none⟩), .int .i64 p] w fun e w' => e = .returned (.int .u64 pn) ∧ w = w') :
    Calls Try.prog 31 #[.pointer (some ⟨g, 0, none⟩), .int .i64 id, .int .i64 p, .int .u64 b, .int .u64 n] w fun e w' => e = .returned (.int .i64 0) ∧ (∃ A' c', XAt w' g A' c' (P ++ [⟨id, p, b, n⟩] ++ T)) ∧ Chg (· = g) w w' := by
  have hc := h.cell
  have hfr := h.frozen
  have HH := Lib.hid h
  replace AC := Lib.hid AC
  replace NC := Lib.hid NC
  have b0 : decide (id < 1) = false := decide_eq_false (by omega)
  have b1 : decide (15 < id) = false := decide_eq_false (by omega)
  have b2 : decide (b < pn) = false := decide_eq_false (by omega)
  have b3 : decide (n ≤ b) = false := decide_eq_false (by omega)
  replace hP := Lib.hid hP
  replace hT := Lib.hid hT
  clear h
  generalize hX : P ++ T = X at *
  generalize hY : P ++ [(⟨id, p, b, n⟩ : Br)] ++ T = Y at *
  go_enter Try.func31, Try.ntmps31
  go_wp2_with (first | (go_at_call 29; refine (AC.out _).mono ?_; rintro e w' ⟨rfl, rfl⟩) | (go_at_call 36; refine NC.out.mono ?_; rintro e w' ⟨rfl, rfl⟩))
  obtain ⟨i0, hi, hz0, hz1, hz2⟩ := info_parts br_info
  have hi' := Lib.hid hi
  clear hi
  have hglt := HH.out.lt
  have hhd := Lib.hid HH.out.head
  have hcap := HH.out.cap
  have hR := HH.out.reads
  have hXl : P.length ≤ X.length := by rw [← hX, List.length_append]; omega
  have hcs0 : brcs Y = [] ++ (brcs X).take (P.length * 4) ++ [.int .i64 id, .int .i64 p, .int .u64 b, .int .u64 n] ++ (brcs X).drop (P.length * 4) := by
    rw [← hY, ← hX, brcs_take, brcs_drop, List.take_left, List.drop_left, brcs_append, brcs_append]
    rfl
  have hlen0 : Y.length = 0 + P.length + 1 + (X.length - P.length) := by
    rw [← hY, ← hX, List.length_append, List.length_append, List.length_append, List.length_singleton]
    omega
  have hcs := Lib.hid hcs0
  have hlen := Lib.hid hlen0
  clear hcs0 hlen0 hY
  have hR1 := Lib.hid (hR.take (i := P.length) hXl)
  have hR2 := Lib.hid (hR.cut (k := P.length) (cap := c) hXl hcap)
  clear hR
  have o1 := Lib.hid (fun u (hu : u ∈ (brcs X).take (P.length * 4)) => brcs_one X u (List.mem_of_mem_take hu))
  have o2 := Lib.hid (fun u (hu : u ∈ (brcs X).drop (P.length * 4)) => brcs_one X u (List.mem_of_mem_drop hu))
  have hx1 := Lib.hid (show 0 + P.length ≤ maxLen ∧ (0 + P.length) * 32 ≤ 140737488355328 ∧ 0 + P.length + 1 ≤ maxLen ∧ (0 + P.length + 1) * 32 ≤ 140737488355328 ∧ 0 + P.length + 1 + (X.length - P.length) ≤ maxLen ∧ (0 + P.length + 1 + (X.length - P.length)) * 32 ≤ 140737488355328 by unfold maxLen; omega)
  have hXc : Hid (Below w.heap.size w ((w.alloc (.cells #[.int .i64 id, .int .i64 p, .int .u64 b, .int .u64 n] 76)).alloc (.cells #[] 76))) := Lib.hid (below_alloc (below_alloc (Below.refl _ _) _) _)
  have hXb : Hid (Below w.heap.size w (((w.alloc (.cells #[.int .i64 id, .int .i64 p, .int .u64 b, .int .u64 n] 76)).alloc (.cells #[] 76)).alloc (.cells #[.int .i64 id, .int .i64 p, .int .u64 b, .int .u64 n] 76))) := Lib.hid (below_alloc (below_alloc (below_alloc (Below.refl _ _) _) _) _)
  have hXa : Hid (Below w.heap.size w (((w.alloc (.cells #[.int .i64 id, .int .i64 p, .int .u64 b, .int .u64 n] 76)).alloc (.cells #[.int .i64 id, .int .i64 p, .int .u64 b, .int .u64 n] 76)).alloc (.cells #[] 76))) := Lib.hid (below_alloc (below_alloc (below_alloc (Below.refl _ _) _) _) _)
  have hR1c := Lib.hid (hR1.out.below hXc.out)
  have hR1b := Lib.hid (hR1.out.below hXb.out)
  have hR1a := Lib.hid (hR1.out.below hXa.out)
  have hXcB : Hid (((w.alloc (.cells #[.int .i64 id, .int .i64 p, .int .u64 b, .int .u64 n] 76)).alloc (.cells #[] 76)).heap[w.heap.size]? = some (.cells #[.int .i64 id, .int .i64 p, .int .u64 b, .int .u64 n] 76)) := Lib.hid (blk_alloc (heap_alloc_new w _) _)
  have hXbB : Hid ((((w.alloc (.cells #[.int .i64 id, .int .i64 p, .int .u64 b, .int .u64 n] 76)).alloc (.cells #[] 76)).alloc (.cells #[.int .i64 id, .int .i64 p, .int .u64 b, .int .u64 n] 76)).heap[w.heap.size]? = some (.cells #[.int .i64 id, .int .i64 p, .int .u64 b, .int .u64 n] 76)) := Lib.hid (blk_alloc (blk_alloc (heap_alloc_new w _) _) _)
  have hXaB : Hid ((((w.alloc (.cells #[.int .i64 id, .int .i64 p, .int .u64 b, .int .u64 n] 76)).alloc (.cells #[.int .i64 id, .int .i64 p, .int .u64 b, .int .u64 n] 76)).alloc (.cells #[] 76)).heap[w.heap.size]? = some (.cells #[.int .i64 id, .int .i64 p, .int .u64 b, .int .u64 n] 76)) := Lib.hid (blk_alloc (blk_alloc (heap_alloc_new w _) _) _)
  have hXbQ : Hid ((((w.alloc (.cells #[.int .i64 id, .int .i64 p, .int .u64 b, .int .u64 n] 76)).alloc (.cells #[] 76)).alloc (.cells #[.int .i64 id, .int .i64 p, .int .u64 b, .int .u64 n] 76)).heap[w.heap.size + 1 + 1]? = some (.cells #[.int .i64 id, .int .i64 p, .int .u64 b, .int .u64 n] 76)) := Lib.hid (by have := heap_alloc_new ((w.alloc (.cells #[.int .i64 id, .int .i64 p, .int .u64 b, .int .u64 n] 76)).alloc (.cells #[] 76)) (.cells #[.int .i64 id, .int .i64 p, .int .u64 b, .int .u64 n] 76); rwa [World.size_alloc, World.size_alloc] at this)
  have hXaQ : Hid ((((w.alloc (.cells #[.int .i64 id, .int .i64 p, .int .u64 b, .int .u64 n] 76)).alloc (.cells #[.int .i64 id, .int .i64 p, .int .u64 b, .int .u64 n] 76)).alloc (.cells #[] 76)).heap[w.heap.size + 1]? = some (.cells #[.int .i64 id, .int .i64 p, .int .u64 b, .int .u64 n] 76)) := Lib.hid (by have := blk_alloc (heap_alloc_new (w.alloc (.cells #[.int .i64 id, .int .i64 p, .int .u64 b, .int .u64 n] 76)) (.cells #[.int .i64 id, .int .i64 p, .int .u64 b, .int .u64 n] 76)) (.cells #[] 76); rwa [World.size_alloc] at this)
  have g1 : g < w.heap.size + 1 := by omega
  have g2 : g < w.heap.size + 1 + 1 := by omega
  have g3 : g < w.heap.size + 1 + 1 + 1 := by omega
  have g4 : w.heap.size < w.heap.size + 1 := by omega
  have g5 : w.heap.size < w.heap.size + 1 + 1 := by omega
  have q0 : (0 : Int) ≤ (P.length : Int) := by omega
  have q1 : (P.length : Int) ≤ (X.length : Int) := by omega
  have q2 : (P.length : Int) ≤ (c : Int) := by omega
  have hm : Hid (P.length ≤ X.length) := Lib.hid hXl
  go_loop [11] (fun v11 => ∃ k : Nat, k ≤ P.length ∧ v11 = .int .i64 k) (fun v11 => X.length - (intOf v11).toNat)
  case atStart => exact ⟨0, Nat.zero_le _, rfl⟩
  case round =>
    obtain ⟨k, hk, rfl⟩ := hrel
    have hm' := hm.out
    by_cases hkp : k < P.length
    · have hlt : k < X.length := by omega
      obtain ⟨blk, rfl, e0, e1, e2, e3⟩ := HH.out.row.at hlt
      clear e1 e2 e3
      have hy : decide (X[k].id < id) = true := decide_eq_true (by
          have : X[k] = P[k] := by subst hX; exact List.getElem_append_left hkp
          rw [this]; exact hP.out _ (List.getElem_mem hkp))
      generalize X[k].id = y at *
      go_wp2
      go_round
      case rel => exact ⟨k + 1, by omega, by go_num⟩
      case measure => simp [intOf]; omega
    · have hkk : k = P.length := by omega
      have hTy := Lib.hid (fun (h : P.length < X.length) => (by
          have : X[P.length] ∈ T := by
            subst hX
            rw [List.getElem_append_right (Nat.le_refl _)]
            exact List.getElem_mem _
          have := hT.out _ this
          omega : ¬ X[P.length].id < id))
      subst hkk
      clear hP hT hX
      by_cases hlt : P.length < X.length
      obtain ⟨blk, rfl, e0, e1, e2, e3⟩ := HH.out.row.at hlt
      clear e1 e2 e3
      have hy : decide (X[P.length].id < id) = false := decide_eq_false (hTy.out hlt)
      generalize X[P.length].id = y at *
      have hR2 := Lib.hid (show Reads w w.heap.size 4 (if c = P.length then some { block := blk, off := 0 } else some { block := blk, off := P.length * 4 }) (X.length - P.length) ((brcs X).drop (P.length * 4)) by
        have h := hR2.out
        have e : Option.map (fun x => Addr.add x (P.length * 4)) (some { block := blk, off := 0 }) = some { block := blk, off := P.length * 4 } := by
          show some (Addr.add _ _) = _
          unfold Addr.add
          split
          · rename_i e0; rw [e0]
          · simp
        rw [e] at h
        exact h)
      have hR3 := Lib.hid (show Reads w w.heap.size 4 (some { block := blk, off := P.length * 4 }) (X.length - P.length) ((brcs X).drop (P.length * 4)) by
        have h := hR2.out
        rw [if_neg (by omega)] at h
        exact h)
      go_wp2
      rotate_left
      have hR3 := hR2
      go_wp2
      all_goals
        have hS0 := And.intro ((below_drew (below_alloc (Below.refl w.heap.size w) (.cells #[.int .i64 id, .int .i64 p, .int .u64 b, .int .u64 n] 76))).cell (p := { block := g, off := 0 }) hglt |>.trans hc) (cells4 (w := (w.alloc (.cells #[.int .i64 id, .int .i64 p, .int .u64 b, .int .u64 n] 76)).drew) (heap_alloc_new w _))
        refine wp_region_z_drew (S := fun w' => w'.cell? { block := g, off := 0 } = some (.slice _ X.length c) ∧ w'.cell? { block := w.heap.size, off := 0 } = some (.int .i64 id) ∧ w'.cell? { block := w.heap.size, off := 1 } = some (.int .i64 p) ∧ w'.cell? { block := w.heap.size, off := 2 } = some (.int .u64 b) ∧ w'.cell? { block := w.heap.size, off := 3 } = some (.int .u64 n)) (z := 21) (by kernel_rfl) hS0 (fun hHeld => ?_)
        refine wpAnyZ_take1 0 rfl (by decide) (by kernel_rfl) (by kernel_rfl) (by kernel_rfl) (by kernel_rfl) (fun d v c a w h => by cases d <;> exact h) (by assumption) ⟨?_, ?_, ?_, Or.inl ⟨?_, ?_⟩, ?_⟩
        rotate_left
        · simp only [List.getElem?_toArray, List.getElem?_cons_zero, List.getElem?_cons_succ]; rfl
        rotate_left
        · rfl
        · intro w hSw; (try dsimp only at hSw); go_simp; try (with_reducible rfl)
        simp only [Act.put, List.setIfInBounds_toArray, List.set_cons_zero, List.set_cons_succ]
        refine wpAnyZ_take1 2 rfl (by decide) (by kernel_rfl) (by kernel_rfl) (by kernel_rfl) (by kernel_rfl) (fun d v c a w h => by cases d <;> exact h) (by assumption) ⟨?_, ?_, ?_, Or.inl ⟨?_, ?_⟩, ?_⟩
        rotate_left
        · simp only [List.getElem?_toArray, List.getElem?_cons_zero, List.getElem?_cons_succ]; rfl
        rotate_left
        · rfl
        · intro w hSw; (try dsimp only at hSw); go_simp; try (with_reducible rfl)
        simp only [Act.put, List.setIfInBounds_toArray, List.set_cons_zero, List.set_cons_succ]
        refine wpAnyZ_take1 3 rfl (by decide) (by kernel_rfl) (by kernel_rfl) (by kernel_rfl) (by kernel_rfl) (fun d v c a w h => by cases d <;> exact h) (by assumption) ⟨?_, ?_, ?_, Or.inl ⟨?_, ?_⟩, ?_⟩
        rotate_left
        · simp only [List.getElem?_toArray, List.getElem?_cons_zero, List.getElem?_cons_succ]; rfl
        rotate_left
        · rfl
        · intro w hSw; (try dsimp only at hSw); go_simp; try (with_reducible rfl)
        simp only [Act.put, List.setIfInBounds_toArray, List.set_cons_zero, List.set_cons_succ]
        refine wpAnyZ_take1 4 rfl (by decide) (by kernel_rfl) (by kernel_rfl) (by kernel_rfl) (by kernel_rfl) (fun d v c a w h => by cases d <;> exact h) (by assumption) ⟨?_, ?_, ?_, Or.inl ⟨?_, ?_⟩, ?_⟩
        rotate_left
        · simp only [List.getElem?_toArray, List.getElem?_cons_zero, List.getElem?_cons_succ]; rfl
        rotate_left
        · rfl
        · intro w hSw; (try dsimp only at hSw); go_simp; try (with_reducible rfl)
        simp only [Act.put, List.setIfInBounds_toArray, List.set_cons_zero, List.set_cons_succ]
        refine wpAnyZ_take1 5 rfl (by decide) (by kernel_rfl) (by kernel_rfl) (by kernel_rfl) (by kernel_rfl) (fun d v c a w h => by cases d <;> exact h) (by assumption) ⟨?_, ?_, ?_, Or.inl ⟨?_, ?_⟩, ?_⟩
        rotate_left
        · simp only [List.getElem?_toArray, List.getElem?_cons_zero, List.getElem?_cons_succ]; rfl
        rotate_left
        · rfl
        · intro w hSw; (try dsimp only at hSw); go_simp; try (with_reducible rfl)
        simp only [Act.put, List.setIfInBounds_toArray, List.set_cons_zero, List.set_cons_succ]
        refine wpAnyZ_take1 6 rfl (by decide) (by kernel_rfl) (by kernel_rfl) (by kernel_rfl) (by kernel_rfl) (fun d v c a w h => by cases d <;> exact h) (by assumption) ⟨?_, ?_, ?_, Or.inl ⟨?_, ?_⟩, ?_⟩
        rotate_left
        · simp only [List.getElem?_toArray, List.getElem?_cons_zero, List.getElem?_cons_succ]; rfl
        rotate_left
        · rfl
        · intro w hSw; (try dsimp only at hSw); go_simp; try (with_reducible rfl)
        simp only [Act.put, List.setIfInBounds_toArray, List.set_cons_zero, List.set_cons_succ]
        refine wpAnyZ_take1 7 rfl (by decide) (by kernel_rfl) (by kernel_rfl) (by kernel_rfl) (by kernel_rfl) (fun d v c a w h => by cases d <;> exact h) (by assumption) ⟨?_, ?_, ?_, Or.inl ⟨?_, ?_⟩, ?_⟩
        rotate_left
        · simp only [List.getElem?_toArray, List.getElem?_cons_zero, List.getElem?_cons_succ]; rfl
        rotate_left
        · rfl
        · intro w hSw; (try dsimp only at hSw); go_simp; try (with_reducible rfl)
        simp only [Act.put, List.setIfInBounds_toArray, List.set_cons_zero, List.set_cons_succ]
        refine wpAnyZ_take1 9 rfl (by decide) (by kernel_rfl) (by kernel_rfl) (by kernel_rfl) (by kernel_rfl) (fun d v c a w h => by cases d <;> exact h) (by assumption) ⟨?_, ?_, ?_, Or.inl ⟨?_, ?_⟩, ?_⟩
        rotate_left
        · simp only [List.getElem?_toArray, List.getElem?_cons_zero, List.getElem?_cons_succ]; rfl
        rotate_left
        · rfl
        · intro w hSw; (try dsimp only at hSw); go_simp; try (with_reducible rfl)
        simp only [Act.put, List.setIfInBounds_toArray, List.set_cons_zero, List.set_cons_succ]
        refine wpAnyZ_take1 12 rfl (by decide) (by kernel_rfl) (by kernel_rfl) (by kernel_rfl) (by kernel_rfl) (fun d v c a w h => by cases d <;> exact h) (by assumption) ⟨?_, ?_, ?_, Or.inl ⟨?_, ?_⟩, ?_⟩
        rotate_left
        · simp only [List.getElem?_toArray, List.getElem?_cons_zero, List.getElem?_cons_succ]; rfl
        rotate_left
        · rfl
        · intro w hSw; (try dsimp only at hSw); go_simp; try (with_reducible rfl)
        simp only [Act.put, List.setIfInBounds_toArray, List.set_cons_zero, List.set_cons_succ]
        refine wpAnyZ_take1 13 rfl (by decide) (by kernel_rfl) (by kernel_rfl) (by kernel_rfl) (by kernel_rfl) (fun d v c a w h => by cases d <;> exact h) (by assumption) ⟨?_, ?_, ?_, Or.inl ⟨?_, ?_⟩, ?_⟩
        rotate_left
        · simp only [List.getElem?_toArray, List.getElem?_cons_zero, List.getElem?_cons_succ]; rfl
        rotate_left
        · rfl
        · intro w hSw; (try dsimp only at hSw); go_simp; try (with_reducible rfl)
        simp only [Act.put, List.setIfInBounds_toArray, List.set_cons_zero, List.set_cons_succ]
        refine wpAnyZ_take1 14 rfl (by decide) (by kernel_rfl) (by kernel_rfl) (by kernel_rfl) (by kernel_rfl) (fun d v c a w h => by cases d <;> exact h) (by assumption) ⟨?_, ?_, ?_, Or.inl ⟨?_, ?_⟩, ?_⟩
        rotate_left
        · simp only [List.getElem?_toArray, List.getElem?_cons_zero, List.getElem?_cons_succ]; rfl
        rotate_left
        · rfl
        · intro w hSw; (try dsimp only at hSw); go_simp; try (with_reducible rfl)
        simp only [Act.put, List.setIfInBounds_toArray, List.set_cons_zero, List.set_cons_succ]
        refine wpAnyZ_take1 15 rfl (by decide) (by kernel_rfl) (by kernel_rfl) (by kernel_rfl) (by kernel_rfl) (fun d v c a w h => by cases d <;> exact h) (by assumption) ⟨?_, ?_, ?_, Or.inl ⟨?_, ?_⟩, ?_⟩
        rotate_left
        · simp only [List.getElem?_toArray, List.getElem?_cons_zero, List.getElem?_cons_succ]; rfl
        rotate_left
        · rfl
        · intro w hSw; (try dsimp only at hSw); go_simp; try (with_reducible rfl)
        simp only [Act.put, List.setIfInBounds_toArray, List.set_cons_zero, List.set_cons_succ]
        refine wpAnyZ_take1 16 rfl (by decide) (by kernel_rfl) (by kernel_rfl) (by kernel_rfl) (by kernel_rfl) (fun d v c a w h => by cases d <;> exact h) (by assumption) ⟨?_, ?_, ?_, Or.inl ⟨?_, ?_⟩, ?_⟩
        rotate_left
        · simp only [List.getElem?_toArray, List.getElem?_cons_zero, List.getElem?_cons_succ]; rfl
        rotate_left
        · rfl
        · intro w hSw; (try dsimp only at hSw); go_simp; try (with_reducible rfl)
        simp only [Act.put, List.setIfInBounds_toArray, List.set_cons_zero, List.set_cons_succ]
        refine wpAnyZ_take1 17 rfl (by decide) (by kernel_rfl) (by kernel_rfl) (by kernel_rfl) (by kernel_rfl) (fun d v c a w h => by cases d <;> exact h) (by assumption) ⟨?_, ?_, ?_, Or.inl ⟨?_, ?_⟩, ?_⟩
        rotate_left
        · simp only [List.getElem?_toArray, List.getElem?_cons_zero, List.getElem?_cons_succ]; rfl
        rotate_left
        · rfl
        · intro w hSw; (try dsimp only at hSw); go_simp; try (with_reducible rfl)
        simp only [Act.put, List.setIfInBounds_toArray, List.set_cons_zero, List.set_cons_succ]
        have hWB : Hid (Below w.heap.size w (w.alloc (.cells #[.int .i64 id, .int .i64 p, .int .u64 b, .int .u64 n] 76)).drew) := Lib.hid (below_drew (below_alloc (Below.refl _ _) _))
        have hWz : w.heap.size ≤ (w.alloc (.cells #[.int .i64 id, .int .i64 p, .int .u64 b, .int .u64 n] 76)).drew.heap.size := hWB.out.size
        have hWg : g < (w.alloc (.cells #[.int .i64 id, .int .i64 p, .int .u64 b, .int .u64 n] 76)).drew.heap.size := Nat.lt_of_lt_of_le hglt hWz
        have hWb : w.heap.size < (w.alloc (.cells #[.int .i64 id, .int .i64 p, .int .u64 b, .int .u64 n] 76)).drew.heap.size := by simp
        have R1W := Lib.hid ((hR1.out.below hWB.out).more hWz)
        have R2W := Lib.hid ((hR2.out.below hWB.out).more hWz)
        have R3W := Lib.hid ((hR3.out.below hWB.out).more hWz)
        have hWf : (w.alloc (.cells #[.int .i64 id, .int .i64 p, .int .u64 b, .int .u64 n] 76)).drew.frozen? { block := g, off := 0 } = false := (hWB.out.frozen (p := { block := g, off := 0 }) hglt).trans hfr
        have KS := Lib.hid (fun (w' : World) (h : Below (w.alloc (.cells #[.int .i64 id, .int .i64 p, .int .u64 b, .int .u64 n] 76)).drew.heap.size (w.alloc (.cells #[.int .i64 id, .int .i64 p, .int .u64 b, .int .u64 n] 76)).drew w') => (⟨⟨(h.cell (p := { block := g, off := 0 }) hWg).trans hHeld.1, (h.cell (p := { block := w.heap.size, off := 0 }) hWb).trans hHeld.2.1, (h.cell (p := { block := w.heap.size, off := 1 }) hWb).trans hHeld.2.2.1, (h.cell (p := { block := w.heap.size, off := 2 }) hWb).trans hHeld.2.2.2.1, (h.cell (p := { block := w.heap.size, off := 3 }) hWb).trans hHeld.2.2.2.2⟩, (h.frozen (p := { block := g, off := 0 }) hWg).trans hWf⟩ : (w'.cell? { block := g, off := 0 } = some (.slice _ X.length c) ∧ w'.cell? { block := w.heap.size, off := 0 } = some (.int .i64 id) ∧ w'.cell? { block := w.heap.size, off := 1 } = some (.int .i64 p) ∧ w'.cell? { block := w.heap.size, off := 2 } = some (.int .u64 b) ∧ w'.cell? { block := w.heap.size, off := 3 } = some (.int .u64 n)) ∧ w'.frozen? { block := g, off := 0 } = false))
        clear hHeld hS0 hfr hc hXc hXb hXa hR1c hR1b hR1a hXcB hXbB hXaB hXbQ hXaQ g1 g2 g3 g4 g5
        generalize (w.alloc (.cells #[.int .i64 id, .int .i64 p, .int .u64 b, .int .u64 n] 76)).drew = W at *
        refine wpAnyZ_ready (rs := [1, 10]) (by kernel_rfl) (by simp) ?_
        refine AllReadyZ.cons1 ⟨?_, ?_, fun K hK => ?_⟩ ?_
        rotate_left
        · simp only [List.getElem?_toArray, List.getElem?_cons_zero, List.getElem?_cons_succ]; rfl
        go_simp
        refine hK.out _ _ (fun _ => ?_) (fun _ => ?_)
        · exact (KS.out _ (below_alloc (Below.refl _ _) _)).1
        clear hK K
        try simp only [Act.put, List.setIfInBounds_toArray, List.set_cons_zero, List.set_cons_succ]
        refine wpAnyZ_ready (rs := [8, 10]) (by kernel_rfl) (by simp) ?_
        refine AllReadyZ.cons1 ⟨?_, ?_, fun K hK => ?_⟩ ?_
        rotate_left
        · simp only [List.getElem?_toArray, List.getElem?_cons_zero, List.getElem?_cons_succ]; rfl
        refine step_append_any _ rfl (.tmp 63) (.tmp 69) 45 rfl W.heap.size 76 i0 _ 4 32 Try.underlying45 hi'.out hz0 hz1 hz2 rfl (by decide) (.slice (some ⟨W.heap.size, 0, none⟩) 0 0) 0 [] rfl (own_empty W _ _ _ (Nat.le_refl _)) W.heap.size _ P.length c ((brcs X).take (P.length * 4)) rfl (R1W.out.alloc (Nat.le_refl _) _) o1.out hx1.out.1 hx1.out.2.1 (by simp) ?_
        intro v1 w1 ho1 hg1 ha1
        have hb1 : Below W.heap.size W w1 := below_via (below_alloc (Below.refl _ W) (.cells #[] 76)) hg1 rfl rfl rfl rfl (by simp) (own_base (own_empty W _ 76 4 (Nat.le_refl _)))
        have ks1 := KS.out _ hb1
        replace hb1 := Lib.hid hb1
        replace ho1 := Lib.hid ho1
        replace hg1 := Lib.hid hg1
        clear ha1
        refine hK.out _ _ (fun _ => ?_) (fun _ => ?_)
        · exact ks1.1
        clear hK K
        try simp only [Act.put, List.setIfInBounds_toArray, List.set_cons_zero, List.set_cons_succ]
        refine wpAnyZ_ready (rs := [10]) (by kernel_rfl) (by simp) ?_
        refine AllReadyZ.cons1 ⟨?_, ?_, fun K hK => ?_⟩ ?_
        rotate_left
        · simp only [List.getElem?_toArray, List.getElem?_cons_zero, List.getElem?_cons_succ]; rfl
        go_simp
        refine hK.out _ _ (fun _ => ?_) (fun _ => ?_)
        · exact (KS.out _ (below_alloc hb1.out _)).1
        clear hK K
        try simp only [Act.put, List.setIfInBounds_toArray, List.set_cons_zero, List.set_cons_succ]
        refine wpAnyZ_ready (rs := [11]) (by kernel_rfl) (by simp) ?_
        refine AllReadyZ.cons1 ⟨?_, ?_, fun K hK => ?_⟩ ?_
        rotate_left
        · simp only [List.getElem?_toArray, List.getElem?_cons_zero, List.getElem?_cons_succ]; rfl
        refine step_append_any _ rfl (.tmp 70) (.tmp 72) 45 rfl W.heap.size 76 i0 _ 4 32 Try.underlying45 hi'.out hz0 hz1 hz2 rfl (by decide) v1 (0 + P.length) ([] ++ (brcs X).take (P.length * 4)) rfl (World.ownsRow.alloc ho1.out (.cells #[.int .i64 id, .int .i64 p, .int .u64 b, .int .u64 n] 76)) _ _ 1 1 [.int .i64 id, .int .i64 p, .int .u64 b, .int .u64 n] rfl (reads_blk (heap_alloc_new w1 (.cells #[.int .i64 id, .int .i64 p, .int .u64 b, .int .u64 n] 76)) rfl) (by simp [Value.oneCell']) hx1.out.2.2.1 hx1.out.2.2.2.1 (below_alloc hb1.out (.cells #[.int .i64 id, .int .i64 p, .int .u64 b, .int .u64 n] 76)).size ?_
        intro v2 w2 ho2 hg2 ha2
        have hb2 : Below W.heap.size W w2 := below_via (below_alloc hb1.out (.cells #[.int .i64 id, .int .i64 p, .int .u64 b, .int .u64 n] 76)) hg2 rfl rfl rfl rfl (below_alloc hb1.out (.cells #[.int .i64 id, .int .i64 p, .int .u64 b, .int .u64 n] 76)).size (own_base ho1.out)
        have ks2 := KS.out _ hb2
        replace hb2 := Lib.hid hb2
        replace ho2 := Lib.hid ho2
        replace hg2 := Lib.hid hg2
        clear ha2
        refine hK.out _ _ (fun _ => ?_) (fun _ => ?_)
        · exact ks2.1
        clear hK K
        try simp only [Act.put, List.setIfInBounds_toArray, List.set_cons_zero, List.set_cons_succ]
        refine wpAnyZ_ready (rs := [18]) (by kernel_rfl) (by simp) ?_
        refine AllReadyZ.cons1 ⟨?_, ?_, fun K hK => ?_⟩ ?_
        rotate_left
        · simp only [List.getElem?_toArray, List.getElem?_cons_zero, List.getElem?_cons_succ]; rfl
        refine step_append_any _ rfl (.tmp 73) (.tmp 79) 45 rfl W.heap.size 76 i0 _ 4 32 Try.underlying45 hi'.out hz0 hz1 hz2 rfl (by decide) v2 (0 + P.length + 1) ([] ++ (brcs X).take (P.length * 4) ++ [.int .i64 id, .int .i64 p, .int .u64 b, .int .u64 n]) rfl ho2.out W.heap.size _ (X.length - P.length) (c - P.length) ((brcs X).drop (P.length * 4)) rfl (by first | exact R2W.out.below hb2.out | exact R3W.out.below hb2.out) o2.out hx1.out.2.2.2.2.1 hx1.out.2.2.2.2.2 hb2.out.size ?_
        intro v3 w3 ho3 hg3 ha3
        have hb3 : Below W.heap.size W w3 := below_via hb2.out hg3 rfl rfl rfl rfl hb2.out.size (own_base ho2.out)
        have ks3 := KS.out _ hb3
        replace hb3 := Lib.hid hb3
        replace ho3 := Lib.hid ho3
        replace hg3 := Lib.hid hg3
        clear ha3
        obtain ⟨A3, c3, rfl⟩ := own_slice ho3.out
        obtain ⟨ksa, ksb⟩ := ks3
        have ksc := ksa.1
        refine hK.out _ _ (fun _ => ?_) (fun _ => ?_)
        · exact ksa
        clear hK K
        try simp only [Act.put, List.setIfInBounds_toArray, List.set_cons_zero, List.set_cons_succ]
        refine wpAnyZ_ready (rs := [19]) (by kernel_rfl) (by simp) ?_
        refine AllReadyZ.cons1 ⟨?_, ?_, fun K hK => ?_⟩ ?_
        rotate_left
        · simp only [List.getElem?_toArray, List.getElem?_cons_zero, List.getElem?_cons_succ]; rfl
        go_simp
        refine hK.out _ _ (fun _ => ?_) (fun _ => ?_)
        · exact ksa
        clear hK K
        try simp only [Act.put, List.setIfInBounds_toArray, List.set_cons_zero, List.set_cons_succ]
        refine wpAnyZ_ready (rs := [20]) (by kernel_rfl) (by simp) ?_
        refine AllReadyZ.cons1 ⟨?_, ?_, fun K hK => ?_⟩ ?_
        rotate_left
        · simp only [List.getElem?_toArray, List.getElem?_cons_zero, List.getElem?_cons_succ]; rfl
        go_simp
        refine hK.out _ _ (fun _ => ?_) (fun _ => ?_)
        · exact ksa
        clear hK K
        try simp only [Act.put, List.setIfInBounds_toArray, List.set_cons_zero, List.set_cons_succ]
        refine wpAnyZ_ready (rs := [21]) (by kernel_rfl) (by simp) ?_
        refine AllReadyZ.cons1 ⟨?_, ?_, fun K hK => ?_⟩ ?_
        rotate_left
        · simp only [List.getElem?_toArray, List.getElem?_cons_zero, List.getElem?_cons_succ]; rfl
        go_simp
        refine hK.out _ _ (fun h => absurd rfl h) (fun _ => ?_)
        clear hK K
        try simp only [Act.put, List.setIfInBounds_toArray, List.set_cons_zero, List.set_cons_succ]
        refine wpAnyZ_done (by kernel_rfl) ?_ _
        · go_wp2
          all_goals
            go_ret
            exact ⟨rfl, new_list (X := X) (c := c) (own_mono ho3.out hWz) hlen.out hcs.out (by omega) (hWB.out.trans (hb3.out.mono hWz)) hhd.out⟩
        repeat exact AllReadyZ.nil
        refine AllReadyZ.cons1 ⟨?_, ?_, fun K hK => ?_⟩ ?_
        rotate_left
        · simp only [List.getElem?_toArray, List.getElem?_cons_zero, List.getElem?_cons_succ]; rfl
        go_simp
        refine hK.out _ _ (fun _ => ?_) (fun _ => ?_)
        · exact (KS.out _ (below_alloc (below_alloc (Below.refl _ _) _) _)).1
        clear hK K
        try simp only [Act.put, List.setIfInBounds_toArray, List.set_cons_zero, List.set_cons_succ]
        refine wpAnyZ_ready (rs := [8]) (by kernel_rfl) (by simp) ?_
        refine AllReadyZ.cons1 ⟨?_, ?_, fun K hK => ?_⟩ ?_
        rotate_left
        · simp only [List.getElem?_toArray, List.getElem?_cons_zero, List.getElem?_cons_succ]; rfl
        refine step_append_any _ rfl (.tmp 63) (.tmp 69) 45 rfl W.heap.size 76 i0 _ 4 32 Try.underlying45 hi'.out hz0 hz1 hz2 rfl (by decide) (.slice (some ⟨W.heap.size, 0, none⟩) 0 0) 0 [] rfl (World.ownsRow.alloc (own_empty W _ _ _ (Nat.le_refl _)) (.cells #[.int .i64 id, .int .i64 p, .int .u64 b, .int .u64 n] 76)) W.heap.size _ P.length c ((brcs X).take (P.length * 4)) rfl ((R1W.out.alloc (Nat.le_refl _) (.cells #[] 76)).alloc (by simp) (.cells #[.int .i64 id, .int .i64 p, .int .u64 b, .int .u64 n] 76)) o1.out hx1.out.1 hx1.out.2.1 (by simp; omega) ?_
        intro v1 w1 ho1 hg1 ha1
        have hb1 : Below W.heap.size W w1 := below_via (below_alloc (below_alloc (Below.refl _ W) (.cells #[] 76)) (.cells #[.int .i64 id, .int .i64 p, .int .u64 b, .int .u64 n] 76)) hg1 rfl rfl rfl rfl (by simp; omega) (own_base (own_empty W _ 76 4 (Nat.le_refl _)))
        have ks1 := KS.out _ hb1
        replace hb1 := Lib.hid hb1
        replace ho1 := Lib.hid ho1
        replace hg1 := Lib.hid hg1
        clear ha1
        have hq1 : w1.heap[W.heap.size + 1]? = some (.cells #[.int .i64 id, .int .i64 p, .int .u64 b, .int .u64 n] 76) := (hg1.out.block (W.heap.size + 1) (by simp) (by simp [Value.ownBlock])).trans (by have := heap_alloc_new (W.alloc (.cells #[] 76)) (.cells #[.int .i64 id, .int .i64 p, .int .u64 b, .int .u64 n] 76); rwa [World.size_alloc] at this)
        refine hK.out _ _ (fun _ => ?_) (fun _ => ?_)
        · exact ks1.1
        clear hK K
        try simp only [Act.put, List.setIfInBounds_toArray, List.set_cons_zero, List.set_cons_succ]
        refine wpAnyZ_ready (rs := [11]) (by kernel_rfl) (by simp) ?_
        refine AllReadyZ.cons1 ⟨?_, ?_, fun K hK => ?_⟩ ?_
        rotate_left
        · simp only [List.getElem?_toArray, List.getElem?_cons_zero, List.getElem?_cons_succ]; rfl
        refine step_append_any _ rfl (.tmp 70) (.tmp 72) 45 rfl W.heap.size 76 i0 _ 4 32 Try.underlying45 hi'.out hz0 hz1 hz2 rfl (by decide) v1 (0 + P.length) ([] ++ (brcs X).take (P.length * 4)) rfl ho1.out _ _ 1 1 [.int .i64 id, .int .i64 p, .int .u64 b, .int .u64 n] rfl (reads_blk hq1 rfl) (by simp [Value.oneCell']) hx1.out.2.2.1 hx1.out.2.2.2.1 hb1.out.size ?_
        intro v2 w2 ho2 hg2 ha2
        have hb2 : Below W.heap.size W w2 := below_via hb1.out hg2 rfl rfl rfl rfl hb1.out.size (own_base ho1.out)
        have ks2 := KS.out _ hb2
        replace hb2 := Lib.hid hb2
        replace ho2 := Lib.hid ho2
        replace hg2 := Lib.hid hg2
        clear ha2
        refine hK.out _ _ (fun _ => ?_) (fun _ => ?_)
        · exact ks2.1
        clear hK K
        try simp only [Act.put, List.setIfInBounds_toArray, List.set_cons_zero, List.set_cons_succ]
        refine wpAnyZ_ready (rs := [18]) (by kernel_rfl) (by simp) ?_
        refine AllReadyZ.cons1 ⟨?_, ?_, fun K hK => ?_⟩ ?_
        rotate_left
        · simp only [List.getElem?_toArray, List.getElem?_cons_zero, List.getElem?_cons_succ]; rfl
        refine step_append_any _ rfl (.tmp 73) (.tmp 79) 45 rfl W.heap.size 76 i0 _ 4 32 Try.underlying45 hi'.out hz0 hz1 hz2 rfl (by decide) v2 (0 + P.length + 1) ([] ++ (brcs X).take (P.length * 4) ++ [.int .i64 id, .int .i64 p, .int .u64 b, .int .u64 n]) rfl ho2.out W.heap.size _ (X.length - P.length) (c - P.length) ((brcs X).drop (P.length * 4)) rfl (by first | exact R2W.out.below hb2.out | exact R3W.out.below hb2.out) o2.out hx1.out.2.2.2.2.1 hx1.out.2.2.2.2.2 hb2.out.size ?_
        intro v3 w3 ho3 hg3 ha3
        have hb3 : Below W.heap.size W w3 := below_via hb2.out hg3 rfl rfl rfl rfl hb2.out.size (own_base ho2.out)
        have ks3 := KS.out _ hb3
        replace hb3 := Lib.hid hb3
        replace ho3 := Lib.hid ho3
        replace hg3 := Lib.hid hg3
        clear ha3
        obtain ⟨A3, c3, rfl⟩ := own_slice ho3.out
        obtain ⟨ksa, ksb⟩ := ks3
        have ksc := ksa.1
        refine hK.out _ _ (fun _ => ?_) (fun _ => ?_)
        · exact ksa
        clear hK K
        try simp only [Act.put, List.setIfInBounds_toArray, List.set_cons_zero, List.set_cons_succ]
        refine wpAnyZ_ready (rs := [19]) (by kernel_rfl) (by simp) ?_
        refine AllReadyZ.cons1 ⟨?_, ?_, fun K hK => ?_⟩ ?_
        rotate_left
        · simp only [List.getElem?_toArray, List.getElem?_cons_zero, List.getElem?_cons_succ]; rfl
        go_simp
        refine hK.out _ _ (fun _ => ?_) (fun _ => ?_)
        · exact ksa
        clear hK K
        try simp only [Act.put, List.setIfInBounds_toArray, List.set_cons_zero, List.set_cons_succ]
        refine wpAnyZ_ready (rs := [20]) (by kernel_rfl) (by simp) ?_
        refine AllReadyZ.cons1 ⟨?_, ?_, fun K hK => ?_⟩ ?_
        rotate_left
        · simp only [List.getElem?_toArray, List.getElem?_cons_zero, List.getElem?_cons_succ]; rfl
        go_simp
        refine hK.out _ _ (fun _ => ?_) (fun _ => ?_)
        · exact ksa
        clear hK K
        try simp only [Act.put, List.setIfInBounds_toArray, List.set_cons_zero, List.set_cons_succ]
        refine wpAnyZ_ready (rs := [21]) (by kernel_rfl) (by simp) ?_
        refine AllReadyZ.cons1 ⟨?_, ?_, fun K hK => ?_⟩ ?_
        rotate_left
        · simp only [List.getElem?_toArray, List.getElem?_cons_zero, List.getElem?_cons_succ]; rfl
        go_simp
        refine hK.out _ _ (fun h => absurd rfl h) (fun _ => ?_)
        clear hK K
        try simp only [Act.put, List.setIfInBounds_toArray, List.set_cons_zero, List.set_cons_succ]
        refine wpAnyZ_done (by kernel_rfl) ?_ _
        · go_wp2
          all_goals
            go_ret
            exact ⟨rfl, new_list (X := X) (c := c) (own_mono ho3.out hWz) hlen.out hcs.out (by omega) (hWB.out.trans (hb3.out.mono hWz)) hhd.out⟩
        repeat exact AllReadyZ.nil
        refine AllReadyZ.cons1 ⟨?_, ?_, fun K hK => ?_⟩ ?_
        rotate_left
        · simp only [List.getElem?_toArray, List.getElem?_cons_zero, List.getElem?_cons_succ]; rfl
        go_simp
        refine hK.out _ _ (fun _ => ?_) (fun _ => ?_)
        · exact (KS.out _ (below_alloc (Below.refl _ _) _)).1
        clear hK K
        try simp only [Act.put, List.setIfInBounds_toArray, List.set_cons_zero, List.set_cons_succ]
        refine wpAnyZ_ready (rs := [1]) (by kernel_rfl) (by simp) ?_
        refine AllReadyZ.cons1 ⟨?_, ?_, fun K hK => ?_⟩ ?_
        rotate_left
        · simp only [List.getElem?_toArray, List.getElem?_cons_zero, List.getElem?_cons_succ]; rfl
        go_simp
        refine hK.out _ _ (fun _ => ?_) (fun _ => ?_)
        · exact (KS.out _ (below_alloc (below_alloc (Below.refl _ _) _) _)).1
        clear hK K
        try simp only [Act.put, List.setIfInBounds_toArray, List.set_cons_zero, List.set_cons_succ]
        refine wpAnyZ_ready (rs := [8]) (by kernel_rfl) (by simp) ?_
        refine AllReadyZ.cons1 ⟨?_, ?_, fun K hK => ?_⟩ ?_
        rotate_left
        · simp only [List.getElem?_toArray, List.getElem?_cons_zero, List.getElem?_cons_succ]; rfl
        refine step_append_any _ rfl (.tmp 63) (.tmp 69) 45 rfl W.heap.size 76 i0 _ 4 32 Try.underlying45 hi'.out hz0 hz1 hz2 rfl (by decide) (.slice (some ⟨W.heap.size + 1, 0, none⟩) 0 0) 0 [] rfl (own_e (W.alloc (.cells #[.int .i64 id, .int .i64 p, .int .u64 b, .int .u64 n] 76)) W.heap.size (W.heap.size + 1) 76 4 (by simp) (by simp)) W.heap.size _ P.length c ((brcs X).take (P.length * 4)) rfl ((R1W.out.alloc (Nat.le_refl _) (.cells #[.int .i64 id, .int .i64 p, .int .u64 b, .int .u64 n] 76)).alloc (by simp) (.cells #[] 76)) o1.out hx1.out.1 hx1.out.2.1 (by simp; omega) ?_
        intro v1 w1 ho1 hg1 ha1
        have hb1 : Below W.heap.size W w1 := below_via (below_alloc (below_alloc (Below.refl _ W) (.cells #[.int .i64 id, .int .i64 p, .int .u64 b, .int .u64 n] 76)) (.cells #[] 76)) hg1 rfl rfl rfl rfl (by simp; omega) (own_base (own_e (W.alloc (.cells #[.int .i64 id, .int .i64 p, .int .u64 b, .int .u64 n] 76)) W.heap.size (W.heap.size + 1) 76 4 (by simp) (by simp)))
        have ks1 := KS.out _ hb1
        replace hb1 := Lib.hid hb1
        replace ho1 := Lib.hid ho1
        replace hg1 := Lib.hid hg1
        clear ha1
        have hq1 : w1.heap[W.heap.size]? = some (.cells #[.int .i64 id, .int .i64 p, .int .u64 b, .int .u64 n] 76) := (hg1.out.block W.heap.size (by simp; omega) (by simp [Value.ownBlock])).trans (blk_alloc (heap_alloc_new W (.cells #[.int .i64 id, .int .i64 p, .int .u64 b, .int .u64 n] 76)) (.cells #[] 76))
        refine hK.out _ _ (fun _ => ?_) (fun _ => ?_)
        · exact ks1.1
        clear hK K
        try simp only [Act.put, List.setIfInBounds_toArray, List.set_cons_zero, List.set_cons_succ]
        refine wpAnyZ_ready (rs := [11]) (by kernel_rfl) (by simp) ?_
        refine AllReadyZ.cons1 ⟨?_, ?_, fun K hK => ?_⟩ ?_
        rotate_left
        · simp only [List.getElem?_toArray, List.getElem?_cons_zero, List.getElem?_cons_succ]; rfl
        refine step_append_any _ rfl (.tmp 70) (.tmp 72) 45 rfl W.heap.size 76 i0 _ 4 32 Try.underlying45 hi'.out hz0 hz1 hz2 rfl (by decide) v1 (0 + P.length) ([] ++ (brcs X).take (P.length * 4)) rfl ho1.out _ _ 1 1 [.int .i64 id, .int .i64 p, .int .u64 b, .int .u64 n] rfl (reads_blk hq1 rfl) (by simp [Value.oneCell']) hx1.out.2.2.1 hx1.out.2.2.2.1 hb1.out.size ?_
        intro v2 w2 ho2 hg2 ha2
        have hb2 : Below W.heap.size W w2 := below_via hb1.out hg2 rfl rfl rfl rfl hb1.out.size (own_base ho1.out)
        have ks2 := KS.out _ hb2
        replace hb2 := Lib.hid hb2
        replace ho2 := Lib.hid ho2
        replace hg2 := Lib.hid hg2
        clear ha2
        refine hK.out _ _ (fun _ => ?_) (fun _ => ?_)
        · exact ks2.1
        clear hK K
        try simp only [Act.put, List.setIfInBounds_toArray, List.set_cons_zero, List.set_cons_succ]
        refine wpAnyZ_ready (rs := [18]) (by kernel_rfl) (by simp) ?_
        refine AllReadyZ.cons1 ⟨?_, ?_, fun K hK => ?_⟩ ?_
        rotate_left
        · simp only [List.getElem?_toArray, List.getElem?_cons_zero, List.getElem?_cons_succ]; rfl
        refine step_append_any _ rfl (.tmp 73) (.tmp 79) 45 rfl W.heap.size 76 i0 _ 4 32 Try.underlying45 hi'.out hz0 hz1 hz2 rfl (by decide) v2 (0 + P.length + 1) ([] ++ (brcs X).take (P.length * 4) ++ [.int .i64 id, .int .i64 p, .int .u64 b, .int .u64 n]) rfl ho2.out W.heap.size _ (X.length - P.length) (c - P.length) ((brcs X).drop (P.length * 4)) rfl (by first | exact R2W.out.below hb2.out | exact R3W.out.below hb2.out) o2.out hx1.out.2.2.2.2.1 hx1.out.2.2.2.2.2 hb2.out.size ?_
        intro v3 w3 ho3 hg3 ha3
        have hb3 : Below W.heap.size W w3 := below_via hb2.out hg3 rfl rfl rfl rfl hb2.out.size (own_base ho2.out)
        have ks3 := KS.out _ hb3
        replace hb3 := Lib.hid hb3
        replace ho3 := Lib.hid ho3
        replace hg3 := Lib.hid hg3
        clear ha3
        obtain ⟨A3, c3, rfl⟩ := own_slice ho3.out
        obtain ⟨ksa, ksb⟩ := ks3
        have ksc := ksa.1
        refine hK.out _ _ (fun _ => ?_) (fun _ => ?_)
        · exact ksa
        clear hK K
        try simp only [Act.put, List.setIfInBounds_toArray, List.set_cons_zero, List.set_cons_succ]
        refine wpAnyZ_ready (rs := [19]) (by kernel_rfl) (by simp) ?_
        refine AllReadyZ.cons1 ⟨?_, ?_, fun K hK => ?_⟩ ?_
        rotate_left
        · simp only [List.getElem?_toArray, List.getElem?_cons_zero, List.getElem?_cons_succ]; rfl
        go_simp
        refine hK.out _ _ (fun _ => ?_) (fun _ => ?_)
        · exact ksa
        clear hK K
        try simp only [Act.put, List.setIfInBounds_toArray, List.set_cons_zero, List.set_cons_succ]
        refine wpAnyZ_ready (rs := [20]) (by kernel_rfl) (by simp) ?_
        refine AllReadyZ.cons1 ⟨?_, ?_, fun K hK => ?_⟩ ?_
        rotate_left
        · simp only [List.getElem?_toArray, List.getElem?_cons_zero, List.getElem?_cons_succ]; rfl
        go_simp
        refine hK.out _ _ (fun _ => ?_) (fun _ => ?_)
        · exact ksa
        clear hK K
        try simp only [Act.put, List.setIfInBounds_toArray, List.set_cons_zero, List.set_cons_succ]
        refine wpAnyZ_ready (rs := [21]) (by kernel_rfl) (by simp) ?_
        refine AllReadyZ.cons1 ⟨?_, ?_, fun K hK => ?_⟩ ?_
        rotate_left
        · simp only [List.getElem?_toArray, List.getElem?_cons_zero, List.getElem?_cons_succ]; rfl
        go_simp
        refine hK.out _ _ (fun h => absurd rfl h) (fun _ => ?_)
        clear hK K
        try simp only [Act.put, List.setIfInBounds_toArray, List.set_cons_zero, List.set_cons_succ]
        refine wpAnyZ_done (by kernel_rfl) ?_ _
        · go_wp2
          all_goals
            go_ret
            exact ⟨rfl, new_list (X := X) (c := c) (own_mono ho3.out hWz) hlen.out hcs.out (by omega) (hWB.out.trans (hb3.out.mono hWz)) hhd.out⟩
        repeat exact AllReadyZ.nil
end Go.Proofs.Ytaolpniigjmccaa.All
namespace Go.Proofs.Ytaolpniigjmccaa.All
open Go.RowKit Go.Proofs.YtaolpniigjmccaaW.PrintWords Go.Proofs.YtaolpniigjmccaaW.PrintLast Go.Proofs.YtaolpniigjmccaaW.PrintMore Go.Proofs.Ytaolpniigjmccaa.Wd
set_option linter.unusedVariables false
set_option linter.unusedSimpArgs false
set_option maxRecDepth 100000 in
theorem rfork_range {g : Nat} {w : World} (id p b n : Int) (h : id < 1 ∨ 15 < id) :
    Calls Try.prog 31 #[.pointer (some ⟨g, 0, none⟩), .int .i64 id, .int .i64 p, .int .u64 b, .int .u64 n] w fun e w' => e = .returned (.int .i64 2) ∧ w = w' := by
  by_cases h0 : id < 1
  · clear h
    go_enter Try.func31, Try.ntmps31
    go_wp2
    go_ret
    exact ⟨rfl, rfl⟩
  · have h1 : 15 < id := h.resolve_left h0
    clear h
    go_enter Try.func31, Try.ntmps31
    go_wp2
    go_ret
    exact ⟨rfl, rfl⟩
set_option maxRecDepth 100000 in
theorem rfork_twice {g : Nat} {w : World} (id p b n : Int) (h0 : 1 ≤ id) (h1 : id < 16) (AC : Calls Try.prog 29 #[.pointer (some ⟨g, 0, none⟩), .int .i64 id] w fun e w' => e = .returned (.bool true) ∧ w = w') :
    Calls Try.prog 31 #[.pointer (some ⟨g, 0, none⟩), .int .i64 id, .int .i64 p, .int .u64 b, .int .u64 n] w fun e w' => e = .returned (.int .i64 5) ∧ w = w' := by
  replace AC := Lib.hid AC
  have b0 : decide (id < 1) = false := decide_eq_false (by omega)
  have b1 : decide (15 < id) = false := decide_eq_false (by omega)
  go_enter Try.func31, Try.ntmps31
  go_wp2_with (go_at_call 29; refine AC.out.mono ?_; rintro e w' ⟨rfl, rfl⟩)
  go_ret
  exact ⟨rfl, rfl⟩
set_option maxRecDepth 100000 in
theorem rfork_none {g : Nat} {w : World} (id p b n : Int) (h0 : 1 ≤ id) (h1 : id < 16) (al : Int → Bool) (ha0 : al id = false) (ha1 : al p = false) (AC : ∀ j, Calls Try.prog 29 #[.pointer (some ⟨g, 0, none⟩), .int .i64 j] w fun e w' => e = .returned (.bool (al j)) ∧ w = w') :
    Calls Try.prog 31 #[.pointer (some ⟨g, 0, none⟩), .int .i64 id, .int .i64 p, .int .u64 b, .int .u64 n] w fun e w' => e = .returned (.int .i64 4) ∧ w = w' := by
  replace AC := Lib.hid AC
  have b0 : decide (id < 1) = false := decide_eq_false (by omega)
  have b1 : decide (15 < id) = false := decide_eq_false (by omega)
  go_enter Try.func31, Try.ntmps31
  go_wp2_with (go_at_call 29; refine (AC.out _).mono ?_; rintro e w' ⟨rfl, rfl⟩)
  go_ret
  exact ⟨rfl, rfl⟩
set_option maxRecDepth 100000 in
theorem rfork_past {g : Nat} {w : World} (id p b n pn : Int) (h0 : 1 ≤ id) (h1 : id < 16) (al : Int → Bool) (ha0 : al id = false) (ha1 : al p = true) (AC : ∀ j, Calls Try.prog 29 #[.pointer (some ⟨g, 0, none⟩), .int .i64 j] w fun e w' => e = .returned (.bool (al j)) ∧ w = w')
    (NC : Calls Try.prog 36 #[.pointer (some ⟨g, 0, none⟩), .int .i64 p] w fun e w' => e = .returned (.int .u64 pn) ∧ w = w') (hb : b < pn ∨ n ≤ b) :
    Calls Try.prog 31 #[.pointer (some ⟨g, 0, none⟩), .int .i64 id, .int .i64 p, .int .u64 b, .int .u64 n] w fun e w' => e = .returned (.int .i64 15) ∧ w = w' := by
  replace AC := Lib.hid AC
  replace NC := Lib.hid NC
  have b0 : decide (id < 1) = false := decide_eq_false (by omega)
  have b1 : decide (15 < id) = false := decide_eq_false (by omega)
  by_cases h2 : b < pn
  · clear hb
    go_enter Try.func31, Try.ntmps31
    go_wp2_with (first | (go_at_call 29; refine (AC.out _).mono ?_; rintro e w' ⟨rfl, rfl⟩) | (go_at_call 36; refine NC.out.mono ?_; rintro e w' ⟨rfl, rfl⟩))
    go_ret
    exact ⟨rfl, rfl⟩
  · have h3 : n ≤ b := hb.resolve_left h2
    clear hb
    go_enter Try.func31, Try.ntmps31
    go_wp2_with (first | (go_at_call 29; refine (AC.out _).mono ?_; rintro e w' ⟨rfl, rfl⟩) | (go_at_call 36; refine NC.out.mono ?_; rintro e w' ⟨rfl, rfl⟩))
    go_ret
    exact ⟨rfl, rfl⟩
end Go.Proofs.Ytaolpniigjmccaa.All
namespace Go.Proofs.Ytaolpniigjmccaa.All
open Go.RowKit Go.Proofs.YtaolpniigjmccaaW.PrintWords Go.Proofs.YtaolpniigjmccaaW.PrintLast Go.Proofs.YtaolpniigjmccaaW.PrintMore Go.Proofs.Ytaolpniigjmccaa.Wd
set_option linter.unusedVariables false
set_option linter.unusedSimpArgs false
/-- Both forests in memory. -/
structure Two (w : World) (b g : Nat) (F : List Tw) : Prop where
  f : At w b 69 F
  x : ∃ A c, XAt w g A c (refL F)
theorem Two.below {w w2 : World} {b g : Nat} {F : List Tw} (h : Two w b g F) (hb : Below w.heap.size w w2) : Two w2 b g F := ⟨h.f.below hb, let ⟨A, c, hx⟩ := h.x; ⟨A, c, hx.below hb⟩⟩
theorem Two.ne {w : World} {b g : Nat} {F : List Tw} (h : Two w b g F) : b ≠ g := let ⟨_, _, hx⟩ := h.x; hx.apart h.f
def DoPost (F : List Tw) (a : Ac) (b g : Nat) (w : World) (e : Ending) (w' : World) : Prop := ∃ k, e = .returned (.tuple #[.int .i64 k, .int .i64 k]) ∧ Two w' b g (actF F a) ∧ Chg (fun q => q = b ∨ q = g) w w'
theorem XAt.drew {w : World} {g : Nat} {A : Option Addr} {c : Nat} {X : List Br} (h : XAt w g A c X) : XAt w.drew g A c X := ⟨h.head, h.cap, h.row⟩
theorem two_end {F G : List Tw} {b g : Nat} {w w0 w1 w2 : World} {o : Obj} (hA : At w b 69 F) (hg : g < w.heap.size) (e0 : ∀ S w', Chg S w0 w' → Chg S (w.alloc o) w') (h1 : At w1 b 69 G) (hc1 : Chg (· = b) w0 w1) (hne : b ≠ g) (hx : ∃ A c, XAt w2 g A c (refL G)) (hc2 : Chg (· = g) w1 w2) :
    Two w2 b g G ∧ Chg (fun q => q = b ∨ q = g) w w2 :=
  ⟨⟨h1.chg hc2 hne, hx⟩, (Chg.of_below (below_alloc (Below.refl _ _) o)).trans (((e0 _ _ hc1).mono (fun _ h => .inl h)).trans (hc2.mono (fun _ h => .inr h)))⟩
set_option maxRecDepth 100000 in
set_option maxHeartbeats 1000000 in
theorem do_drop {F : List Tw} (ok : Ok F) {b g : Nat} {w : World} (h : Two w b g F) (a : Ac) (hd : a.d = true) :
    Calls Try.prog 17 #[.pointer (some ⟨b, 0, none⟩), .pointer (some ⟨g, 0, none⟩), .agg #[.bool a.d, .int .i64 a.id, .int .i64 a.p, .int .u64 a.b, .int .u64 a.n]] w (DoPost F a b g w) := by
  have hF : actF F a = dropF F a.id := by unfold actF; rw [hd]; rfl
  have hne := h.ne
  obtain ⟨A, c, hx⟩ := h.x
  have FC : ∀ w', At w' b 69 F → Calls Try.prog 12 #[.pointer (some ⟨b, 0, none⟩), .int .i64 a.id] w' fun e w2 => e = .returned (.int .i64 (dropC F a.id)) ∧ At w2 b 69 (dropF F a.id) ∧ Chg (· = b) w' w2 := fun w' hA => drop_calls' hA rfl rfl
  have RC : ∀ w', XAt w' g A c (refL F) → Calls Try.prog 30 #[.pointer (some ⟨g, 0, none⟩), .int .i64 a.id] w' fun e w2 => e = .returned (.int .i64 (dropC F a.id)) ∧ (∃ A c, XAt w2 g A c (refL (dropF F a.id))) ∧ Chg (· = g) w' w2 := fun w' hX => rdrop_is ok hX a.id
  replace FC := Lib.hid FC
  replace RC := Lib.hid RC
  have HF := Lib.hid hF
  have HA := Lib.hid h.f
  have HX := Lib.hid hx
  have hbw : b ≠ w.heap.size := by have := h.f.lt; omega
  have hglt := hx.lt
  have hgw : g ≠ w.heap.size := by have := hx.lt; omega
  have HA0 : Hid (At (w.alloc (.cells #[.bool true, .int .i64 a.id, .int .i64 a.p, .int .u64 a.b, .int .u64 a.n] 25)) b 69 F) := Lib.hid (h.f.below (below_alloc (Below.refl _ _) _))
  have HX0 : Hid (XAt (w.alloc (.cells #[.bool true, .int .i64 a.id, .int .i64 a.p, .int .u64 a.b, .int .u64 a.n] 25)) g A c (refL F)) := Lib.hid (hx.below (below_alloc (Below.refl _ _) _))
  clear hF h hx
  generalize dropC F a.id = dc at *
  rw [hd]
  go_enter Try.func17, Try.ntmps17
  go_wp2
  have hcell : (w.alloc (.cells #[.bool true, .int .i64 a.id, .int .i64 a.p, .int .u64 a.b, .int .u64 a.n] 25)).cell? { block := w.heap.size, off := 1 } = some (.int .i64 a.id) := cell_of_row _ _ 1 _ _ (0, 0) (heap_alloc_new w _)
  go_region_held3 (fun w' => w'.cell? { block := w.heap.size, off := 1 } = some (.int .i64 a.id)) (first | exact hcell | exact hcell2 | exact hcell1)
    ((first
      | (go_at_call 12
         refine (FC.out _ (by exact HA0.out)).mono ?_
         rintro e w1 ⟨rfl, hA1, hc1⟩
         have hcell1 := (World.cell?_of_block (a := { block := w.heap.size, off := 1 }) (hc1.block w.heap.size (by simp) (Ne.symm hbw))).trans hcell
         have hX1 := (show XAt _ g A c (refL F) from by first | exact HX0.out | exact HX0.out.drew).forest (b := b) (F := F) (by exact HA0.out) hc1
         replace hX1 := Lib.hid hX1
         replace hA1 := Lib.hid hA1
         replace hc1 := Lib.hid hc1)
      | (go_at_call 30
         refine (RC.out _ (by first | exact hX1.out | exact hX1.out.drew)).mono ?_
         rintro e w2 ⟨rfl, hX2, hc2⟩
         have hcell2 := (World.cell?_of_block (a := { block := w.heap.size, off := 1 }) (hc2.block w.heap.size (Array.getElem?_eq_some_iff.1 (hc1.out.old (heap_alloc_new w _) (Ne.symm hbw))).1 (Ne.symm hgw))).trans hcell1
         replace hX2 := Lib.hid hX2
         replace hc2 := Lib.hid hc2)))
  go_wp2
  go_ret2
  obtain ⟨e1, e2⟩ := two_end (o := .cells #[.bool true, .int .i64 a.id, .int .i64 a.p, .int .u64 a.b, .int .u64 a.n] 25) (w0 := (w.alloc (.cells #[.bool true, .int .i64 a.id, .int .i64 a.p, .int .u64 a.b, .int .u64 a.n] 25)).drew) HA.out hglt (fun S w' h => ⟨h.os, h.tape, h.output, h.size, h.block⟩) hA1.out hc1.out hne hX2.out hc2.out
  exact ⟨dc, rfl, by rw [HF.out]; exact e1, e2⟩
set_option maxRecDepth 100000 in
set_option maxHeartbeats 1000000 in
theorem do_fork {F : List Tw} (RF : ∀ (w : World) (g c : Nat) (A : Option Addr) (x p b n : Int), XAt w g A c (refL F) → Calls Try.prog 31 #[.pointer (some ⟨g, 0, none⟩), .int .i64 x, .int .i64 p, .int .u64 b, .int .u64 n] w fun e w2 => e = .returned (.int .i64 (forkC F x p b n)) ∧ (∃ A c, XAt w2 g A c (refL (forkF F x p b n))) ∧ Chg (· = g) w w2) {b g : Nat} {w : World} (h : Two w b g F) (a : Ac) (hd : a.d = false) :
    Calls Try.prog 17 #[.pointer (some ⟨b, 0, none⟩), .pointer (some ⟨g, 0, none⟩), .agg #[.bool a.d, .int .i64 a.id, .int .i64 a.p, .int .u64 a.b, .int .u64 a.n]] w (DoPost F a b g w) := by
  have hF : actF F a = forkF F a.id a.p a.b a.n := by unfold actF; rw [hd]; rfl
  have hne := h.ne
  obtain ⟨A, c, hx⟩ := h.x
  have FC : ∀ w', At w' b 69 F → Calls Try.prog 13 #[.pointer (some ⟨b, 0, none⟩), .int .i64 a.id, .int .i64 a.p, .int .u64 a.b, .int .u64 a.n] w' fun e w2 => e = .returned (.int .i64 (forkC F a.id a.p a.b a.n)) ∧ At w2 b 69 (forkF F a.id a.p a.b a.n) ∧ Chg (· = b) w' w2 := fun w' hA => fork_calls' hA rfl rfl
  have RC : ∀ w', XAt w' g A c (refL F) → Calls Try.prog 31 #[.pointer (some ⟨g, 0, none⟩), .int .i64 a.id, .int .i64 a.p, .int .u64 a.b, .int .u64 a.n] w' fun e w2 => e = .returned (.int .i64 (forkC F a.id a.p a.b a.n)) ∧ (∃ A c, XAt w2 g A c (refL (forkF F a.id a.p a.b a.n))) ∧ Chg (· = g) w' w2 := fun w' hX => RF w' g c A a.id a.p a.b a.n hX
  replace FC := Lib.hid FC
  replace RC := Lib.hid RC
  have HF := Lib.hid hF
  have HA := Lib.hid h.f
  have HX := Lib.hid hx
  have hbw : b ≠ w.heap.size := by have := h.f.lt; omega
  have hglt := hx.lt
  have hgw : g ≠ w.heap.size := by have := hx.lt; omega
  have HA0 : Hid (At (w.alloc (.cells #[.bool false, .int .i64 a.id, .int .i64 a.p, .int .u64 a.b, .int .u64 a.n] 25)) b 69 F) := Lib.hid (h.f.below (below_alloc (Below.refl _ _) _))
  have HX0 : Hid (XAt (w.alloc (.cells #[.bool false, .int .i64 a.id, .int .i64 a.p, .int .u64 a.b, .int .u64 a.n] 25)) g A c (refL F)) := Lib.hid (hx.below (below_alloc (Below.refl _ _) _))
  clear hF h hx
  generalize forkC F a.id a.p a.b a.n = dc at *
  rw [hd]
  go_enter Try.func17, Try.ntmps17
  go_wp2
  have hcell : (w.alloc (.cells #[.bool false, .int .i64 a.id, .int .i64 a.p, .int .u64 a.b, .int .u64 a.n] 25)).cell? { block := w.heap.size, off := 1 } = some (.int .i64 a.id) ∧ (w.alloc (.cells #[.bool false, .int .i64 a.id, .int .i64 a.p, .int .u64 a.b, .int .u64 a.n] 25)).cell? { block := w.heap.size, off := 2 } = some (.int .i64 a.p) ∧ (w.alloc (.cells #[.bool false, .int .i64 a.id, .int .i64 a.p, .int .u64 a.b, .int .u64 a.n] 25)).cell? { block := w.heap.size, off := 3 } = some (.int .u64 a.b) ∧ (w.alloc (.cells #[.bool false, .int .i64 a.id, .int .i64 a.p, .int .u64 a.b, .int .u64 a.n] 25)).cell? { block := w.heap.size, off := 4 } = some (.int .u64 a.n) := ⟨cell_of_row _ _ 1 _ _ (0, 0) (heap_alloc_new w _), cell_of_row _ _ 2 _ _ (0, 0) (heap_alloc_new w _), cell_of_row _ _ 3 _ _ (0, 0) (heap_alloc_new w _), cell_of_row _ _ 4 _ _ (0, 0) (heap_alloc_new w _)⟩
  go_region_held3 (fun w' => w'.cell? { block := w.heap.size, off := 1 } = some (.int .i64 a.id) ∧ w'.cell? { block := w.heap.size, off := 2 } = some (.int .i64 a.p) ∧ w'.cell? { block := w.heap.size, off := 3 } = some (.int .u64 a.b) ∧ w'.cell? { block := w.heap.size, off := 4 } = some (.int .u64 a.n)) (first | exact hcell | exact hcell2 | exact hcell1)
    ((first
      | (go_at_call 13
         refine (FC.out _ (by exact HA0.out)).mono ?_
         rintro e w1 ⟨rfl, hA1, hc1⟩
         have hcell1 := And.intro ((World.cell?_of_block (a := { block := w.heap.size, off := 1 }) (hc1.block w.heap.size (by simp) (Ne.symm hbw))).trans hcell.1) (And.intro ((World.cell?_of_block (a := { block := w.heap.size, off := 2 }) (hc1.block w.heap.size (by simp) (Ne.symm hbw))).trans hcell.2.1) (And.intro ((World.cell?_of_block (a := { block := w.heap.size, off := 3 }) (hc1.block w.heap.size (by simp) (Ne.symm hbw))).trans hcell.2.2.1) ((World.cell?_of_block (a := { block := w.heap.size, off := 4 }) (hc1.block w.heap.size (by simp) (Ne.symm hbw))).trans hcell.2.2.2)))
         have hX1 := (show XAt _ g A c (refL F) from by first | exact HX0.out | exact HX0.out.drew).forest (b := b) (F := F) (by exact HA0.out) hc1
         replace hX1 := Lib.hid hX1
         replace hA1 := Lib.hid hA1
         replace hc1 := Lib.hid hc1)
      | (go_at_call 31
         refine (RC.out _ (by first | exact hX1.out | exact hX1.out.drew)).mono ?_
         rintro e w2 ⟨rfl, hX2, hc2⟩
         have hcell2 := And.intro ((World.cell?_of_block (a := { block := w.heap.size, off := 1 }) (hc2.block w.heap.size (Array.getElem?_eq_some_iff.1 (hc1.out.old (heap_alloc_new w _) (Ne.symm hbw))).1 (Ne.symm hgw))).trans hcell1.1) (And.intro ((World.cell?_of_block (a := { block := w.heap.size, off := 2 }) (hc2.block w.heap.size (Array.getElem?_eq_some_iff.1 (hc1.out.old (heap_alloc_new w _) (Ne.symm hbw))).1 (Ne.symm hgw))).trans hcell1.2.1) (And.intro ((World.cell?_of_block (a := { block := w.heap.size, off := 3 }) (hc2.block w.heap.size (Array.getElem?_eq_some_iff.1 (hc1.out.old (heap_alloc_new w _) (Ne.symm hbw))).1 (Ne.symm hgw))).trans hcell1.2.2.1) ((World.cell?_of_block (a := { block := w.heap.size, off := 4 }) (hc2.block w.heap.size (Array.getElem?_eq_some_iff.1 (hc1.out.old (heap_alloc_new w _) (Ne.symm hbw))).1 (Ne.symm hgw))).trans hcell1.2.2.2)))
         replace hX2 := Lib.hid hX2
         replace hc2 := Lib.hid hc2)))
  go_wp2
  go_ret2
  obtain ⟨e1, e2⟩ := two_end (o := .cells #[.bool false, .int .i64 a.id, .int .i64 a.p, .int .u64 a.b, .int .u64 a.n] 25) (w0 := (w.alloc (.cells #[.bool false, .int .i64 a.id, .int .i64 a.p, .int .u64 a.b, .int .u64 a.n] 25)).drew) HA.out hglt (fun S w' h => ⟨h.os, h.tape, h.output, h.size, h.block⟩) hA1.out hc1.out hne hX2.out hc2.out
  exact ⟨dc, rfl, by rw [HF.out]; exact e1, e2⟩
end Go.Proofs.Ytaolpniigjmccaa.All
namespace Go.Proofs.Ytaolpniigjmccaa.All
open Go.RowKit Go.Proofs.YtaolpniigjmccaaW.PrintWords Go.Proofs.YtaolpniigjmccaaW.PrintLast Go.Proofs.YtaolpniigjmccaaW.PrintMore Go.Proofs.Ytaolpniigjmccaa.Wd
set_option linter.unusedVariables false
def RForkPost (F : List Tw) (g : Nat) (id p b n : Int) (w : World) (e : Ending) (w' : World) : Prop := e = .returned (.int .i64 (forkC F id p b n)) ∧ (∃ A c, XAt w' g A c (refL (forkF F id p b n))) ∧ Chg (· = g) w w'
theorem rfork_same {F : List Tw} {g c : Nat} {A : Option Addr} {id p b n : Int} {w : World} (h : XAt w g A c (refL F)) {k : Int} (hc : forkC F id p b n = k) (hn : k ≠ 0) : RForkPost F g id p b n w (.returned (.int .i64 k)) w :=
  ⟨ret_i hc.symm, ⟨A, c, by rw [fork_no (by rw [hc]; exact hn)]; exact h⟩, Chg.refl _ _⟩
theorem rfork_is {F : List Tw} (ok : Ok F) {g c : Nat} {A : Option Addr} {w : World} (h : XAt w g A c (refL F)) (id p b n : Int) :
    Calls Try.prog 31 #[.pointer (some ⟨g, 0, none⟩), .int .i64 id, .int .i64 p, .int .u64 b, .int .u64 n] w (RForkPost F g id p b n w) := by
  by_cases hr : id < 1 ∨ 16 ≤ id
  · exact (rfork_range id p b n (by omega)).mono fun e w' ⟨he, hw⟩ => by subst he hw; exact rfork_same h (by unfold forkC; rw [if_pos hr]) (by decide)
  have h0 : 1 ≤ id := by omega
  have h1 : id < 16 := by omega
  have AC := fun j => ralive_is ok h j
  by_cases ha : (tw F id).a = true
  · have e0 : aliveF F id = true := by rw [alive_in (by omega) h1 (by omega)]; exact ha
    exact (rfork_twice id p b n h0 h1 (by have := AC id; rwa [e0] at this)).mono fun e w' ⟨he, hw⟩ => by subst he hw; exact rfork_same h (by unfold forkC; rw [if_neg hr, if_pos ha]) (by decide)
  have ha' : (tw F id).a = false := by simpa using ha
  have e0 : aliveF F id = false := by rw [alive_in (by omega) h1 (by omega)]; exact ha'
  by_cases hp : aliveF F p = true
  · have NC := rnum_is ok h p
    rw [show numF F p = (tw F p).n by unfold numF; rw [if_pos hp]] at NC
    by_cases hb : b < (tw F p).n ∨ n ≤ b
    · exact (rfork_past id p b n _ h0 h1 (aliveF F) e0 hp AC NC hb).mono fun e w' ⟨he, hw⟩ => by subst he hw; exact rfork_same h (by unfold forkC; rw [if_neg hr, if_neg ha, if_neg (by rw [hp]; decide), if_pos hb]) (by decide)
    · have hk : forkC F id p b n = 0 := by unfold forkC; rw [if_neg hr, if_neg ha, if_neg (by rw [hp]; decide), if_neg hb]
      obtain ⟨k, rfl⟩ : ∃ k : Nat, id = (k : Int) := ⟨id.toNat, by omega⟩
      obtain ⟨t, e1, e2, e3, e4⟩ := ref_put ok.len (show k < 16 by omega) ha' p b n
      have hl := refL_len F
      rw [e1] at h hl
      refine (rfork_done h (k : Int) p b n _ h0 h1 (by omega) (by omega) hl e3 e4 (aliveF F) e0 hp AC NC).mono fun e w' ⟨he, hx, hc⟩ => ⟨he.trans (ret_i hk.symm), ?_, hc⟩
      unfold forkF
      rw [if_pos hk, Int.toNat_natCast, e2]
      simpa using hx
  · exact (rfork_none id p b n h0 h1 (aliveF F) e0 (by simpa using hp) AC).mono fun e w' ⟨he, hw⟩ => by subst he hw; exact rfork_same h (by unfold forkC; rw [if_neg hr, if_neg ha, if_pos (by simpa using hp)]) (by decide)
theorem do_is {F : List Tw} (ok : Ok F) {b g : Nat} {w : World} (h : Two w b g F) (a : Ac) :
    Calls Try.prog 17 #[.pointer (some ⟨b, 0, none⟩), .pointer (some ⟨g, 0, none⟩), .agg #[.bool a.d, .int .i64 a.id, .int .i64 a.p, .int .u64 a.b, .int .u64 a.n]] w (DoPost F a b g w) := by
  by_cases hd : a.d = true
  · exact do_drop ok h a hd
  · exact do_fork (fun w g c A x p b n hx => rfork_is ok hx x p b n) h a (by simpa using hd)
end Go.Proofs.Ytaolpniigjmccaa.All
namespace Go.Proofs.Ytaolpniigjmccaa.All
open Go.RowKit Go.Proofs.YtaolpniigjmccaaW.PrintWords Go.Proofs.YtaolpniigjmccaaW.PrintLast Go.Proofs.YtaolpniigjmccaaW.PrintMore Go.Proofs.Ytaolpniigjmccaa.Wd
set_option linter.unusedVariables false
set_option linter.unusedSimpArgs false
theorem reads_u64 {w : World} {B : Nat} {A : Option Addr} {xs : List Int} (h : Reads w B 1 A xs.length (xs.map (Value.int .u64))) {k : Nat} (hk : k < xs.length) : ∃ ad, A = some ad ∧ w.cell? (ad.add k) = some (.int .u64 xs[k]) := by
  obtain ⟨ad, u, h1, _, h2, h3⟩ := h.at_ hk
  refine ⟨ad, h1, h3.trans ?_⟩
  rw [← h2, List.getElem?_map, List.getElem?_eq_getElem hk]
  rfl
set_option maxRecDepth 100000 in
set_option maxHeartbeats 1000000 in
theorem nums_calls {w : World} {B1 B2 c1 c2 : Nat} {A1 A2 : Option Addr} (xs : List Int) (h1 : Reads w B1 1 A1 xs.length (xs.map (Value.int .u64))) (h2 : Reads w B2 1 A2 xs.length (xs.map (Value.int .u64))) (hl : xs.length ≤ 1000) :
    Calls Try.prog 20 #[.slice A1 xs.length c1, .slice A2 xs.length c2] w fun e w' => e = .returned (.bool true) ∧ Below w.heap.size w w' := by
  replace h1 := Lib.hid h1
  replace h2 := Lib.hid h2
  go_enter Try.func20, Try.ntmps20
  go_wp2
  go_loopw [5] (fun v5 wr => ∃ k : Nat, v5 = .int .i64 k ∧ k ≤ xs.length ∧ Drawn0 w wr) (fun v5 _ => xs.length - (intOf v5).toNat)
  case atStart => exact ⟨0, rfl, Nat.zero_le _, Drawn0.refl _⟩
  case round =>
    obtain ⟨k, rfl, hk, hd⟩ := hrel
    obtain ⟨m, hw⟩ := hd.out
    replace hd := Lib.hid hd
    have HB := Lib.hid (show Below w.heap.size w wr by rw [hw]; exact pw_below_drewN (Below.refl _ _) m)
    by_cases hlt : k < xs.length
    · obtain ⟨a1, rfl, e1⟩ := reads_u64 h1.out hlt
      obtain ⟨a2, rfl, e2⟩ := reads_u64 h2.out hlt
      replace e1 : wr.cell? (a1.add k) = some (.int .u64 xs[k]) := by rw [hw]; exact e1
      replace e2 : wr.cell? (a2.add k) = some (.int .u64 xs[k]) := by rw [hw]; exact e2
      replace hw := Lib.hid hw
      generalize xs[k] = y at *
      go_wp2
      go_quiet (fail)
      go_wp2
      go_roundw
      case rel => exact ⟨k + 1, by go_num, by omega, hd.out.step _⟩
      case measure => simp [intOf]; omega
    · obtain rfl : k = xs.length := by omega
      replace hw := Lib.hid hw
      go_wp2
      go_ret
      exact ⟨rfl, HB.out⟩
end Go.Proofs.Ytaolpniigjmccaa.All
namespace Go.Proofs.Ytaolpniigjmccaa.All
open Go.RowKit Go.Proofs.YtaolpniigjmccaaW.PrintWords Go.Proofs.YtaolpniigjmccaaW.PrintLast Go.Proofs.YtaolpniigjmccaaW.PrintMore Go.Proofs.Ytaolpniigjmccaa.Wd
set_option linter.unusedVariables false
set_option linter.unusedSimpArgs false
set_option maxRecDepth 100000 in
set_option maxHeartbeats 1000000 in
theorem rfree_calls {F : List Tw} (ok : Ok F) {g c : Nat} {A : Option Addr} {w : World} (h : XAt w g A c (refL F)) (r : Nat) (hr : r ≤ 16) (hl : ∀ j : Nat, j < r → aliveF F (j : Int) = true) (hn : r < 16 → aliveF F (r : Int) = false) :
    Calls Try.prog 26 #[.pointer (some ⟨g, 0, none⟩)] w fun e w' => e = .returned (.int .i64 r) ∧ w = w' := by
  have AC := Lib.hid (fun j => ralive_is ok h j)
  replace hl := Lib.hid hl
  replace hn := Lib.hid hn
  clear h
  go_enter Try.func26, Try.ntmps26
  go_wp2
  go_loop [3] (fun v2 => ∃ k : Nat, v2 = .int .i64 k ∧ k ≤ r) (fun v2 => 16 - (intOf v2).toNat)
  case atStart => exact ⟨0, rfl, Nat.zero_le _⟩
  case round =>
    obtain ⟨k, rfl, hk⟩ := hrel
    by_cases hlt : k < r
    · have hk16 : k < 16 := by omega
      have e := hl.out k hlt
      have AK := AC.out (k : Int)
      rw [e] at AK
      replace AK := Lib.hid AK
      clear e
      go_wp2_with (go_at_call 29; refine AK.out.mono ?_; rintro e w' ⟨rfl, rfl⟩)
      go_round
      case rel => exact ⟨k + 1, by go_num, by omega⟩
      case measure => simp [intOf]; omega
    · obtain rfl : k = r := by omega
      by_cases h16 : k < 16
      · have e := hn.out h16
        have AK := AC.out (k : Int)
        rw [e] at AK
        replace AK := Lib.hid AK
        clear e
        go_wp2_with (go_at_call 29; refine AK.out.mono ?_; rintro e w' ⟨rfl, rfl⟩)
        go_ret
        exact ⟨rfl, rfl⟩
      · obtain rfl : k = 16 := by omega
        go_wp2
        go_ret
        exact ⟨rfl, rfl⟩
end Go.Proofs.Ytaolpniigjmccaa.All
namespace Go.Proofs.Ytaolpniigjmccaa.All
open Go.RowKit Go.Proofs.YtaolpniigjmccaaW.PrintWords Go.Proofs.YtaolpniigjmccaaW.PrintLast Go.Proofs.YtaolpniigjmccaaW.PrintMore Go.Proofs.Ytaolpniigjmccaa.Wd
set_option linter.unusedVariables false
set_option linter.unusedSimpArgs false
theorem own_new {w : World} {base : Nat} {v : Value} {X : List Br} (h : w.ownsRow base 76 4 v X.length (brcs X)) :
    ∃ A c, v = .slice A X.length c ∧ XAt (w.alloc (.cells #[v] 47)) w.heap.size A c X := by
  rcases h.2 with ⟨rfl, hn⟩ | ⟨b, cap, cur, rfl, _, hb, hc, _, hs, ht⟩
  · have hX : X = [] := List.eq_nil_of_length_eq_zero hn
    subst hX
    exact ⟨none, 0, rfl, heap_alloc_new w _, Nat.le_refl _, fun hne => absurd rfl hne⟩
  · refine ⟨_, cap, rfl, heap_alloc_new w _, hc, fun _ => ⟨b, cur, rfl, blk_alloc hb _, fun j u hu => ?_⟩⟩
    rw [← ht, List.getElem?_take] at hu
    split at hu
    · simpa using hu
    · cases hu
set_option maxRecDepth 100000 in
set_option maxHeartbeats 1000000 in
theorem rcopy_calls {X : List Br} {g c : Nat} {A : Option Addr} {w : World} (h : XAt w g A c X) (hl : X.length ≤ 16) :
    Calls Try.prog 25 #[.pointer (some ⟨g, 0, none⟩)] w fun e w' => ∃ q, e = .returned (.pointer (some ⟨q, 0, none⟩)) ∧ w.heap.size ≤ q ∧ (∃ A c, XAt w' q A c X) ∧ Below w.heap.size w w' := by
  obtain ⟨i0, hi, hz0, hz1, hz2⟩ := info_parts br_info
  have hi' := Lib.hid hi
  clear hi
  have hc := h.cell
  have hglt := h.lt
  have hR := Lib.hid (h.reads.alloc (Nat.le_refl _) (.cells #[] 76))
  have o1 := Lib.hid (brcs_one X)
  have hx1 := Lib.hid (show 0 + X.length ≤ maxLen ∧ (0 + X.length) * 32 ≤ 140737488355328 by unfold maxLen; omega)
  replace h := Lib.hid h
  go_enter Try.func25, Try.ntmps25
  go_wp2_with (at_builtin
               refine wpList_append_any _ rfl _ _ 45 rfl w.heap.size 76 i0 _ 4 32 Try.underlying45 hi'.out hz0 hz1 hz2 rfl (by decide) _ 0 [] rfl (own_empty w _ _ _ (Nat.le_refl _)) w.heap.size A X.length c (brcs X) rfl hR.out o1.out hx1.out.1 hx1.out.2 (by simp) ?_
               intro v1 w1 ho1 hg1 ha1
               have hb1 : Below w.heap.size w w1 := (below_alloc (Below.refl _ _) (.cells #[] 76)).grown hg1 (by simp) (own_base (own_empty w _ 76 4 (Nat.le_refl _)))
               rw [Nat.zero_add, List.nil_append] at ho1
               obtain ⟨A1, c1, rfl, hxn⟩ := own_new ho1
               replace hb1 := Lib.hid hb1
               replace hxn := Lib.hid hxn
               clear ho1 hg1 ha1)
  go_ret
  exact ⟨w1.heap.size, rfl, hb1.out.size, ⟨_, _, hxn.out⟩, below_alloc hb1.out _⟩
end Go.Proofs.Ytaolpniigjmccaa.All
