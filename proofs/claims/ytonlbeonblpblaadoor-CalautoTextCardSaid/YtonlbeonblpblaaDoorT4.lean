/-
  Plain: which minutes a calendar's rules give, as a set; till when; what right rules are. No condition. What a law of chapter 36 keeps: the table, a calendar, its box; what was there. The rows that came in, read. No condition. The law CalautoEnds tells true of every input. No condition. The law CalautoText tells true of every input. Condition: the listed variables read as the program's text lays them.
-/
import Derived.Test.YtonlbeonblpblaaDoorT3
import Derived.Test.YtonlbeonblpblaaDoorT2
import Derived.Deep.RegionHeld3
import Derived.BigQuiet
import Derived.Test.YtonlbeonblpblaaDoorBackQ
namespace Go.Proofs.YtonlbeonblpblaaDoor.A36
open Go.RowKit Go.Proofs.YtonlbeonblpblaaDoorW.PrintWords Go.Proofs.YtonlbeonblpblaaDoorW.PrintLast Go.Proofs.YtonlbeonblpblaaDoorW.PrintMore Go.Proofs.YtonlbeonblpblaaDoor.Wd
set_option linter.unusedVariables false
set_option linter.unusedSimpArgs false
theorem up_eq : ∀ (a b : List Int), a.Pairwise (· < ·) → b.Pairwise (· < ·) → (∀ z, z ∈ a ↔ z ∈ b) → a = b
  | [], [], _, _, _ => rfl
  | [], y :: b, _, _, h => by have := (h y).2 (by simp); cases this
  | x :: a, [], _, _, h => by have := (h x).1 (by simp); cases this
  | x :: a, y :: b, ha, hb, h => by
    rw [List.pairwise_cons] at ha hb
    have hx : x = y := by
      rcases List.mem_cons.1 ((h x).1 (by simp)) with e | e
      · exact e
      · rcases List.mem_cons.1 ((h y).2 (by simp)) with e2 | e2
        · exact e2.symm
        · have := hb.1 x e; have := ha.1 y e2; omega
    subst hx
    rw [up_eq a b ha.2 hb.2 fun z => ?_]
    constructor
    · intro hz
      rcases List.mem_cons.1 ((h z).1 (by simp [hz])) with rfl | e
      · have := ha.1 z hz; omega
      · exact e
    · intro hz
      rcases List.mem_cons.1 ((h z).2 (by simp [hz])) with rfl | e
      · have := hb.1 z hz; omega
      · exact e
theorem upTo_mem (d : Array Int) (m : Nat) (z : Int) (h : z ∈ Lib.compactUpTo d m) : ∃ j, j < m ∧ d[j]! = z := by
  unfold Lib.compactUpTo at h
  obtain ⟨j, hj, e⟩ := List.mem_map.1 h
  exact ⟨j, List.mem_range.1 (List.mem_filter.1 hj).1, e⟩
theorem mem_upTo (d : Array Int) : ∀ (m : Nat), m ≤ d.size → ∀ j, j < m → d[j]! ∈ Lib.compactUpTo d m
  | 0, _, j, hj => absurd hj (Nat.not_lt_zero _)
  | m + 1, hm, j, hj => by
    rw [Lib.compactUpTo_succ]
    by_cases e : j = m
    · subst e
      by_cases hk : Lib.keeps d j = true
      · rw [if_pos hk]; simp
      · rw [if_neg hk]
        cases j with
        | zero => exact absurd (by simp [Lib.keeps]) hk
        | succ i =>
          have hk : d[i + 1]! = d[i]! := by
            simp [Lib.keeps] at hk
            exact hk
          rw [hk]
          exact List.mem_append_left _ (mem_upTo d (i + 1) (by omega) i (by omega))
    · exact List.mem_append_left _ (mem_upTo d m (by omega) j (by omega))
theorem comp_mem (zs : List Int) (z : Int) : z ∈ Lib.compact zs ↔ z ∈ zs := by
  constructor
  · intro h
    obtain ⟨j, hj, rfl⟩ := upTo_mem _ _ _ h
    rw [show zs.toArray[j]! = zs[j] by simp [hj]]
    exact List.getElem_mem hj
  · intro h
    obtain ⟨j, hj, rfl⟩ := List.mem_iff_getElem.1 h
    have := mem_upTo zs.toArray zs.length (by simp) j hj
    rw [show zs.toArray[j]! = zs[j] by simp [hj]] at this
    exact this
theorem upTo_up (d : Array Int) : ∀ m, m ≤ d.size → (∀ i j, i ≤ j → j < m → d[i]! ≤ d[j]!) → (Lib.compactUpTo d m).Pairwise (· < ·)
  | 0, _, _ => by simp [Lib.compactUpTo]
  | m + 1, hm, h => by
    rw [Lib.compactUpTo_succ]
    have ih := upTo_up d m (by omega) (fun i j h1 h2 => h i j h1 (by omega))
    split
    · rename_i hk
      rw [List.pairwise_append]
      refine ⟨ih, by simp, fun a ha b hb => ?_⟩
      obtain rfl : b = d[m]! := by simpa using hb
      obtain ⟨j, hj, rfl⟩ := upTo_mem _ _ _ ha
      cases m with
      | zero => omega
      | succ i =>
        have hk : d[i + 1]! ≠ d[i]! := by
          have hk := hk
          simp [Lib.keeps] at hk
          exact hk
        have h1 := h j i (by omega) (by omega)
        have h2 := h i (i + 1) (by omega) (by omega)
        omega
    · simpa using ih
theorem comp_up {zs : List Int} (h : zs.Pairwise (· ≤ ·)) : (Lib.compact zs).Pairwise (· < ·) := by
  refine upTo_up _ _ (by simp) fun i j hij hj => ?_
  rw [show zs.toArray[i]! = zs[i] by simp [show i < zs.length by omega], show zs.toArray[j]! = zs[j] by simp [hj]]
  rcases Nat.lt_or_ge i j with hlt | hge
  · exact List.pairwise_iff_getElem.1 h i j _ _ hlt
  · obtain rfl : i = j := by omega
    exact Int.le_refl _
theorem mins_up (M : List It) (num : Int) (N : Int × Bool) (rs : List Ru) : (minsF M num N rs).Pairwise (· < ·) := by
  unfold minsF
  split
  · refine comp_up ?_
    have := List.pairwise_mergeSort (le := fun x y : Int => decide (x ≤ y)) (fun a b c h1 h2 => by simp at h1 h2 ⊢; omega) (fun a b => by simp; omega) (raw M num N rs)
    exact this.imp (fun h => by simpa using h)
  · simp
theorem mins_mem (M : List It) (num : Int) (N : Int × Bool) (rs : List Ru) (x : Int) : x ∈ minsF M num N rs ↔ hit M num = true ∧ ∃ r ∈ rs, keepM M num r = true ∧ minM M num + spanN N r = x := by
  unfold minsF
  by_cases h : hit M num = true
  · rw [if_pos h, comp_mem, List.mem_mergeSort]
    unfold raw
    simp only [List.mem_map, List.mem_filter, h, true_and]
    constructor
    · rintro ⟨r, ⟨h1, h2⟩, h3⟩; exact ⟨r, h1, h2, h3⟩
    · rintro ⟨r, h1, h2, h3⟩; exact ⟨r, ⟨h1, h2⟩, h3⟩
  · rw [if_neg h]
    simp [h]
theorem mins_no {M : List It} {num : Int} (h : hit M num = false) (N : Int × Bool) (rs : List Ru) : minsF M num N rs = [] := by
  unfold minsF
  rw [if_neg (by rw [h]; decide)]
theorem up_last {xs : List Int} (h : xs.Pairwise (· < ·)) {x : Int} (hx : x ∈ xs) : x ≤ xs.getLastD 0 := by
  obtain ⟨j, hj, rfl⟩ := List.mem_iff_getElem.1 hx
  rw [last_get xs (by omega)]
  rcases Nat.lt_or_ge j (xs.length - 1) with hlt | hge
  · exact Int.le_of_lt (List.pairwise_iff_getElem.1 h j (xs.length - 1) _ _ hlt)
  · have : j = xs.length - 1 := by omega
    subst this
    exact Int.le_refl _
theorem last_in {xs : List Int} (h : 0 < xs.length) : xs.getLastD 0 ∈ xs := by
  rw [last_get xs h]
  exact List.getElem_mem _
theorem till_max {M : List It} {num : Int} {N : Int × Bool} {rs : List Ru} {x : Int} (h : x ∈ minsF M num N rs) : x ≤ tillF M num N rs := up_last (mins_up _ _ _ _) h
theorem till_in {M : List It} {num : Int} {N : Int × Bool} {rs : List Ru} (h : 0 < (minsF M num N rs).length) : tillF M num N rs ∈ minsF M num N rs := last_in h
theorem till_none {M : List It} {num : Int} {N : Int × Bool} {rs : List Ru} (h : ¬ 0 < (minsF M num N rs).length) : tillF M num N rs = 0 := last_none _ h
/-- Till when, as the greatest of its minutes. -/
theorem till_cases (M : List It) (num : Int) (N : Int × Bool) (rs : List Ru) : (tillF M num N rs = 0 ∧ (hit M num = true → ∀ r ∈ rs, keepM M num r = false)) ∨ (hit M num = true ∧ (∃ r ∈ rs, keepM M num r = true ∧ minM M num + spanN N r = tillF M num N rs) ∧ ∀ r ∈ rs, keepM M num r = true → minM M num + spanN N r ≤ tillF M num N rs) := by
  by_cases h : 0 < (minsF M num N rs).length
  · have h1 := till_in h
    obtain ⟨h2, h3⟩ := (mins_mem _ _ _ _ _).1 h1
    exact .inr ⟨h2, h3, fun r hr hk => till_max ((mins_mem _ _ _ _ _).2 ⟨h2, r, hr, hk, rfl⟩)⟩
  · refine .inl ⟨till_none h, fun h2 r hr => ?_⟩
    cases hk : keepM M num r with
    | false => rfl
    | true =>
      have := (mins_mem M num N rs _).2 ⟨h2, r, hr, hk, rfl⟩
      exact absurd (List.length_pos_of_mem this) h
/-- What the least of the Nevers is. -/
def NvS (P : List Ru) (a : Int × Bool) : Prop := (a.2 = false ∧ a.1 = 0 ∧ ∀ r ∈ P, r.k ≠ 4) ∨ (a.2 = true ∧ (∃ r ∈ P, r.k = 4 ∧ r.f = a.1) ∧ ∀ r ∈ P, r.k = 4 → a.1 ≤ r.f)
theorem nv_step {P : List Ru} {a : Int × Bool} (h : NvS P a) (r : Ru) : NvS (P ++ [r]) (neverStep a r) := by
  unfold neverStep
  by_cases hk : r.k = 4
  · rw [if_pos hk]
    rcases h with ⟨h1, h2, h3⟩ | ⟨h1, ⟨q, hq, h2, h3⟩, h4⟩
    · rw [if_pos (.inl h1)]
      refine .inr ⟨rfl, ⟨r, by simp, hk, rfl⟩, fun x hx hxk => ?_⟩
      rcases List.mem_append.1 hx with hx | hx
      · exact absurd hxk (h3 x hx)
      · obtain rfl : x = r := by simpa using hx
        exact Int.le_refl _
    · by_cases hf : r.f < a.1
      · rw [if_pos (.inr hf)]
        refine .inr ⟨rfl, ⟨r, by simp, hk, rfl⟩, fun x hx hxk => ?_⟩
        rcases List.mem_append.1 hx with hx | hx
        · have := h4 x hx hxk
          show r.f ≤ x.f
          omega
        · obtain rfl : x = r := by simpa using hx
          exact Int.le_refl _
      · rw [if_neg (by rintro (h | h); · rw [h1] at h; cases h
                       · exact hf h)]
        refine .inr ⟨h1, ⟨q, List.mem_append_left _ hq, h2, h3⟩, fun x hx hxk => ?_⟩
        rcases List.mem_append.1 hx with hx | hx
        · exact h4 x hx hxk
        · obtain rfl : x = r := by simpa using hx
          omega
  · rw [if_neg hk]
    rcases h with ⟨h1, h2, h3⟩ | ⟨h1, ⟨q, hq, h2, h3⟩, h4⟩
    · refine .inl ⟨h1, h2, fun x hx => ?_⟩
      rcases List.mem_append.1 hx with hx | hx
      · exact h3 x hx
      · obtain rfl : x = r := by simpa using hx
        exact hk
    · refine .inr ⟨h1, ⟨q, List.mem_append_left _ hq, h2, h3⟩, fun x hx hxk => ?_⟩
      rcases List.mem_append.1 hx with hx | hx
      · exact h4 x hx hxk
      · obtain rfl : x = r := by simpa using hx
        exact absurd hxk hk
theorem nv_fold : ∀ (L P : List Ru) (a : Int × Bool), NvS P a → NvS (P ++ L) (L.foldl neverStep a)
  | [], P, a, h => by rw [List.append_nil]; exact h
  | r :: L, P, a, h => by
    rw [List.foldl_cons, show P ++ r :: L = (P ++ [r]) ++ L by simp]
    exact nv_fold L (P ++ [r]) _ (nv_step h r)
theorem never_spec (L : List Ru) : NvS L (neverF L) := by
  have := nv_fold L [] (0, false) (.inl ⟨rfl, rfl, fun r hr => absurd hr (by simp)⟩)
  simpa [neverF] using this
theorem nvs_uniq {P Q : List Ru} {a b : Int × Bool} (h : NvS P a) (h2 : NvS Q b) (hm : ∀ r, r ∈ P ↔ r ∈ Q) : a = b := by
  obtain ⟨a1, a2⟩ := a
  obtain ⟨b1, b2⟩ := b
  rcases h with ⟨e1, e2, e3⟩ | ⟨e1, ⟨q, hq, e2, e3⟩, e4⟩ <;> rcases h2 with ⟨f1, f2, f3⟩ | ⟨f1, ⟨p, hp, f2, f3⟩, f4⟩
  · simp only at e1 e2 f1 f2
    rw [e1, e2, f1, f2]
  · exact absurd f2 (e3 p ((hm p).2 hp))
  · exact absurd e2 (f3 q ((hm q).1 hq))
  · have h5 := e4 p ((hm p).2 hp) f2
    have h6 := f4 q ((hm q).1 hq) e2
    simp only at e1 f1 e3 f3 h5 h6
    rw [e1, f1]
    congr 1
    omega
theorem never_same {L L' : List Ru} (h : ∀ r, r ∈ L ↔ r ∈ L') : neverF L = neverF L' := nvs_uniq (never_spec L) (never_spec L') h
theorem ks_mem (L : List Ru) (r : Ru) : r ∈ ksOf L ↔ r ∈ L ∧ r.k ≠ 4 := by unfold ksOf; rw [List.mem_filter]; simp
theorem mins_same {M : List It} {num : Int} {L L' : List Ru} (h : ∀ r, r ∈ L ↔ r ∈ L') : minsF M num (neverF L) (ksOf L) = minsF M num (neverF L') (ksOf L') := by
  refine up_eq _ _ (mins_up _ _ _ _) (mins_up _ _ _ _) fun z => ?_
  rw [mins_mem, mins_mem, never_same h]
  constructor
  · rintro ⟨h1, r, hr, h2⟩
    exact ⟨h1, r, (ks_mem _ _).2 ⟨(h r).1 ((ks_mem _ _).1 hr).1, ((ks_mem _ _).1 hr).2⟩, h2⟩
  · rintro ⟨h1, r, hr, h2⟩
    exact ⟨h1, r, (ks_mem _ _).2 ⟨(h r).2 ((ks_mem _ _).1 hr).1, ((ks_mem _ _).1 hr).2⟩, h2⟩
theorem rightB_f {r : Ru} (h : rightB r = true) : 1 ≤ r.f ∧ r.f ≤ 1073741824 := by
  have hs : spanB r.f = true := by
    unfold rightB at h
    split at h
    · simp only [Bool.and_eq_true] at h; exact h.2
    · split at h
      · simp only [Bool.and_eq_true] at h; exact h.2
      · cases h
  unfold spanB at hs
  simp only [Bool.and_eq_true, decide_eq_true_eq] at hs
  exact hs
theorem rightB_k {r : Ru} (h : rightB r = true) : r.k = 1 ∨ r.k = 2 ∨ r.k = 3 ∨ r.k = 4 := by
  unfold rightB at h
  split at h
  · rename_i e; rcases e with e | e <;> simp [e]
  · split at h
    · rename_i e; rcases e with e | e <;> simp [e]
    · cases h
theorem rightL_parts {L : List Ru} (h : rightL L = true) : L.length ≤ 16 ∧ ∀ r ∈ L, rightB r = true := by
  unfold rightL at h
  simp only [Bool.and_eq_true, decide_eq_true_eq, List.all_eq_true] at h
  exact h
/-- What a right calendar's compiled rules and least Never are. -/
structure Rt (L : List Ru) : Prop where
  len : L.length ≤ 16
  r : ∀ r ∈ L, rightB r = true
theorem Rt.n {L : List Ru} (h : Rt L) : 0 ≤ (neverF L).1 ∧ (neverF L).1 ≤ 1073741824 := by
  rcases never_spec L with ⟨e1, e2, e3⟩ | ⟨e1, ⟨q, hq, e2, e3⟩, e4⟩
  · rw [e2]; decide
  · have := rightB_f (h.r q hq)
    omega
theorem Rt.span {L : List Ru} (h : Rt L) {r : Ru} (hr : r ∈ ksOf L) : 1 ≤ spanN (neverF L) r ∧ spanN (neverF L) r ≤ 1073741824 := by
  have h1 := rightB_f (h.r r ((ks_mem _ _).1 hr).1)
  unfold spanN
  rcases never_spec L with ⟨e1, e2, e3⟩ | ⟨e1, ⟨q, hq, e2, e3⟩, e4⟩
  · rw [if_neg (by rw [e1]; decide)]; exact h1
  · have := rightB_f (h.r q hq)
    rw [if_pos e1]
    omega
theorem Rt.ks {L : List Ru} (h : Rt L) {ks : List (Ru × Nat)} (hk : ks.map (·.1) = ksOf L) : ks.length ≤ 16 ∧ ∀ p ∈ ks, 0 ≤ p.1.f ∧ p.1.f ≤ 1073741824 := by
  have hl : ks.length = (ksOf L).length := by rw [← hk, List.length_map]
  have hl2 : (ksOf L).length ≤ L.length := List.length_filter_le _ _
  refine ⟨by have := h.len; omega, fun p hp => ?_⟩
  have hm : p.1 ∈ ksOf L := by rw [← hk]; exact List.mem_map_of_mem hp
  have := rightB_f (h.r _ ((ks_mem _ _).1 hm).1)
  omega
end Go.Proofs.YtonlbeonblpblaaDoor.A36
namespace Go.Proofs.YtonlbeonblpblaaDoor.A36
open Go.RowKit Go.Proofs.YtonlbeonblpblaaDoorW.PrintWords Go.Proofs.YtonlbeonblpblaaDoorW.PrintLast Go.Proofs.YtonlbeonblpblaaDoorW.PrintMore Go.Proofs.YtonlbeonblpblaaDoor.Wd
set_option linter.unusedVariables false
set_option linter.unusedSimpArgs false
theorem cell_lt {w : World} {p : Addr} {v : Value} (h : w.cell? p = some v) : p.block < w.heap.size := by
  unfold World.cell? at h
  rcases Nat.lt_or_ge p.block w.heap.size with hl | hl
  · exact hl
  · rw [Array.getElem?_eq_none hl] at h
    cases h
theorem ru_row {w : World} {A : Option Addr} {L : List Ru} (h : Kd.C kRu w A L.length L) : RuRow w w.heap.size A L :=
  ru_came h fun ad hA h0 => by
    obtain ⟨ad2, c, hA2, hl, hK, hc⟩ := Kd.C_get h zr (0 : Int) (by omega) (by omega)
    rw [hA] at hA2
    injection hA2 with e
    subst e
    have hcs := kRu_cells hK
    subst hcs
    have := cell_lt (hc 0 _ rfl)
    rwa [block_of_add] at this
theorem RuRow.up {w w2 : World} {A : Option Addr} {L : List Ru} (h : RuRow w w.heap.size A L) (hb : Below w.heap.size w w2) : RuRow w2 w2.heap.size A L := fun h0 => by
  obtain ⟨ad, e, h1, h2⟩ := (h.below hb) h0
  exact ⟨ad, e, Nat.lt_of_lt_of_le h1 hb.size, h2⟩
theorem opensU8 {H : Type} {enc : TypeId × Value → H} : Go.Proofs.YtonlbeonblpblaaDoorO.Opens enc Tryd.prog 23 (Kd.slice 5 (Kd.int .u8)) (fun l => l.length ≤ maxLen ∧ l.length * Tryd.prog.bytesOf 5 ≤ 140737488351232 ∧ ∀ a ∈ l, (Lit.int .u8 a).wf = true) :=
  Go.Proofs.YtonlbeonblpblaaDoorO.opens_slice Tryd.underlying23 (by kernel_rfl) (Go.Proofs.YtonlbeonblpblaaDoorO.opens_int Tryd.underlying5 (by kernel_rfl))
theorem steps_came {w : World} {P : Option Addr} {L : List Int} (h : Kd.C (Kd.int .u8) w P L.length L) : Reads w w.heap.size 1 P L.length (L.map (Value.int .u8)) := by
  refine ⟨by simp, fun h0 => ?_⟩
  obtain ⟨ad, c, hA, hl, hK, hc⟩ := Kd.C_get h (0 : Int) (0 : Int) (by omega) (by omega)
  have hK : c = _ := hK
  refine ⟨ad, hA, ?_, fun j u hu => ?_⟩
  · have := cell_lt (hc 0 _ (by rw [hK]; rfl))
    rwa [block_of_add] at this
  · have hj : j < L.length := by
      have := (List.getElem?_eq_some_iff.1 hu).1
      simpa using this
    obtain ⟨ad2, c2, hA2, hl2, hK2, hc2⟩ := Kd.C_get h (0 : Int) (j : Int) (by omega) (by omega)
    rw [hA] at hA2
    injection hA2 with e
    subst e
    have hK2 : c2 = _ := hK2
    have := hc2 0 _ (by rw [hK2]; rfl)
    rw [List.getElem?_map, List.getElem?_eq_getElem hj] at hu
    injection hu with hu
    rw [← hu]
    rw [Int.toNat_natCast, List.getD_eq_getElem?_getD, List.getElem?_eq_getElem hj] at this
    have e1 : (Kd.int .u8).sz = 1 := rfl
    rw [e1, Nat.mul_one] at this
    simpa [add_of_add] using this
theorem wf_u8 {n : Int} (h : (Lit.int .u8 n).wf = true) : 0 ≤ n ∧ n ≤ 255 := by
  have h1 : IntKind.u8.min = 0 := rfl
  have h2 : IntKind.u8.max = 255 := rfl
  simp [Lit.wf] at h
  omega
theorem steps_wf {L : List Int} (h : ∀ a ∈ L, (Lit.int .u8 a).wf = true) : Steps L := fun x hx => wf_u8 (h x hx)
/-- What a law keeps. -/
structure LW (w wr : World) (R : List Ru) (M : List It) (base b kb q : Nat) (A : Option Addr) (c : Nat) (ks : List (Ru × Nat)) : Prop where
  kt : KT w wr base b M kb A c ks
  box : wr.heap[q]? = some (.cells #[.slice A ks.length c, .int .i64 (neverF R).1, .bool (neverF R).2] 34)
  rt : Rt R
  ru : ks.map (·.1) = ksOf R
section
variable {w wr w2 : World} {R : List Ru} {M : List It} {base b kb q : Nat} {A : Option Addr} {c : Nat} {ks : List (Ru × Nat)}
theorem LW.below (h : LW w wr R M base b kb q A c ks) (hb : Below wr.heap.size wr w2) : LW w w2 R M base b kb q A c ks :=
  ⟨h.kt.below hb, (hb.block _ (lt_heap h.box)).trans h.box, h.rt, h.ru⟩
theorem LW.cells (h : LW w wr R M base b kb q A c ks) : wr.cell? { block := q, off := 0 } = some (.slice A ks.length c) ∧ wr.cell? { block := q, off := 1 } = some (.int .i64 (neverF R).1) ∧ wr.cell? { block := q, off := 2 } = some (.bool (neverF R).2) :=
  ⟨cell_of_row wr q 0 _ _ (0, 0) h.box, cell_of_row wr q 1 _ _ (0, 0) h.box, cell_of_row wr q 2 _ _ (0, 0) h.box⟩
abbrev tl (R : List Ru) (M : List It) (num : Int) : Int := tillF M num (neverF R) (ksOf R)
abbrev mn (R : List Ru) (M : List It) (num : Int) : List Int := minsF M num (neverF R) (ksOf R)
abbrev sy (R : List Ru) (M : List It) (num now : Int) : Bool := staysF M num (neverF R) (ksOf R) now
theorem LW.till (h : LW w wr R M base b kb q A c ks) (g : Good M) (num : Int) :
    Calls Tryd.prog 11 #[.agg #[.slice A ks.length c, .int .i64 (neverF R).1, .bool (neverF R).2], .pointer (some ⟨b, 0, none⟩), .int .u64 num] wr fun e w' => e = .returned (.int .i64 (tl R M num)) ∧ Below wr.heap.size wr w' := by
  obtain ⟨A', c', ht⟩ := h.kt.t
  have h1 := h.rt.ks h.ru
  have := till_calls g ht h.kt.k h1.1 h1.2 h.rt.n num
  rw [h.ru] at this
  exact this
theorem LW.mins (h : LW w wr R M base b kb q A c ks) (g : Good M) (num : Int) :
    Calls Tryd.prog 34 #[.agg #[.slice A ks.length c, .int .i64 (neverF R).1, .bool (neverF R).2], .pointer (some ⟨b, 0, none⟩), .int .u64 num] wr fun e w' => ∃ v, e = .returned v ∧ w'.ownsRow wr.heap.size 3 1 v (mn R M num).length ((mn R M num).map (Value.int .i64)) ∧ Below wr.heap.size wr w' := by
  obtain ⟨A', c', ht⟩ := h.kt.t
  have h1 := h.rt.ks h.ru
  have := mins_calls g ht h.kt.k h1.1 h1.2 h.rt.n num
  rw [h.ru] at this
  exact this
theorem LW.min (h : LW w wr R M base b kb q A c ks) (g : Good M) (num : Int) :
    Calls Tryd.prog 48 #[.pointer (some ⟨b, 0, none⟩), .int .u64 num] wr fun e w' => e = .returned (.tuple #[.int .i64 (minM M num), .bool (hit M num)]) ∧ Below wr.heap.size wr w' := by
  obtain ⟨A', c', ht⟩ := h.kt.t
  exact min_calls g.up ht g.len num
end
end Go.Proofs.YtonlbeonblpblaaDoor.A36
namespace Go.Proofs.YtonlbeonblpblaaDoor.A36
open Go.RowKit Go.Proofs.YtonlbeonblpblaaDoorW.PrintWords Go.Proofs.YtonlbeonblpblaaDoorW.PrintLast Go.Proofs.YtonlbeonblpblaaDoorW.PrintMore Go.Proofs.YtonlbeonblpblaaDoor.Wd
set_option linter.unusedVariables false
set_option linter.unusedSimpArgs false
private theorem ymEnds (motive : Option Value → Sort _) (h1 : (b : Bool) → motive (some (.bool b))) (h2 : (x : Option Value) → motive x) : Go.yielded.match_1 motive (some undef) h1 h2 = h2 (some undef) := rfl
attribute [local go_sem, local simp] ymEnds
theorem ends_none {R : List Ru} {M : List It} (g : Good M) {num : Int} (h : ¬ 0 < (mn R M num).length) : tl R M num = 0 ∧ sy R M num (minM M num) = false := by
  have h1 : tl R M num = 0 := till_none h
  have h2 := (minM_rng g num).1
  refine ⟨h1, ?_⟩
  show (hit M num && decide (minM M num < tl R M num)) = false
  rw [h1, decide_eq_false (by omega), Bool.and_false]
theorem ends_some {R : List Ru} (rt : Rt R) {M : List It} (g : Good M) {num : Int} (h : 0 < (mn R M num).length) : hit M num = true ∧ (∀ i (hi : i < (mn R M num).length), minM M num < (mn R M num)[i] ∧ (mn R M num)[i] ≤ 2147483648) ∧ (∀ hq : (mn R M num).length - 1 < (mn R M num).length, (mn R M num)[(mn R M num).length - 1] = tl R M num) ∧ sy R M num (tl R M num - 1) = true ∧ sy R M num (tl R M num) = false := by
  have h1 := till_in h
  have h2 := ((mins_mem _ _ _ _ _).1 h1).1
  have h3 := minM_rng g num
  refine ⟨h2, fun i hi => ?_, fun _ => (last_get _ h).symm, ?_, ?_⟩
  · obtain ⟨_, r, hr, _, e⟩ := (mins_mem M num (neverF R) (ksOf R) _).1 (List.getElem_mem hi)
    have := rt.span hr
    rw [← e]
    omega
  · show (hit M num && decide (tl R M num - 1 < tl R M num)) = true
    rw [h2, decide_eq_true (by omega)]
    rfl
  · show (hit M num && decide (tl R M num < tl R M num)) = false
    rw [decide_eq_false (by omega), Bool.and_false]
theorem ends_up {R : List Ru} {M : List It} {num : Int} {i : Nat} (hi : i + 1 < (mn R M num).length) (hi2 : i < (mn R M num).length) : (mn R M num)[i] < (mn R M num)[i + 1] :=
  List.pairwise_iff_getElem.1 (mins_up M num (neverF R) (ksOf R)) i (i + 1) hi2 hi (by omega)
theorem comp_lw {R : List Ru} {A0 : Option Addr} {c0 : Nat} {w w1 : World} (hR : RuRow w w.heap.size A0 R) (rt : Rt R) (hb : Below w.heap.size w w1) :
    Calls Tryd.prog 8 #[.slice A0 R.length c0] w1 (CompPost R w1) := compile_ok (hR.up hb) rt.len rt.r
theorem lw_mk {w w1 w3 w4 : World} {R : List Ru} {M : List It} {A : Option Addr} {c : Nat} {ks : List (Ru × Nat)} {base b : Nat} (rt : Rt R) (hb1 : Below w.heap.size w w1) (hk : KAt w3 w1.heap.size A c ks) (hm : ks.map (·.1) = ksOf R) (hb3 : Below w1.heap.size w1 w3)
    (hl1 : (w3.alloc (.cells #[.slice A ks.length c, .int .i64 (neverF R).1, .bool (neverF R).2] 34)).heap.size ≤ base) (hl2 : (w3.alloc (.cells #[.slice A ks.length c, .int .i64 (neverF R).1, .bool (neverF R).2] 34)).heap.size ≤ b) (hl3 : base ≤ w4.heap.size) (ht : ∃ A c, TAt w4 base b A c M)
    (hb4 : Below (w3.alloc (.cells #[.slice A ks.length c, .int .i64 (neverF R).1, .bool (neverF R).2] 34)).heap.size (w3.alloc (.cells #[.slice A ks.length c, .int .i64 (neverF R).1, .bool (neverF R).2] 34)) w4) : LW w w4 R M base b w1.heap.size w3.heap.size A c ks := by
  have hba := below_alloc (Below.refl w3.heap.size w3) (.cells #[.slice A ks.length c, .int .i64 (neverF R).1, .bool (neverF R).2] 34)
  have hw3 : w.heap.size ≤ w3.heap.size := Nat.le_trans hb1.size hb3.size
  have hwa := hba.size
  have hb3w : Below w.heap.size w w3 := hb1.trans (hb3.mono hb1.size)
  have hbw : Below w.heap.size w w4 := (hb3w.trans (hba.mono hw3)).trans (hb4.mono (by omega))
  have hx := heap_alloc_new w3 (.cells #[.slice A ks.length c, .int .i64 (neverF R).1, .bool (neverF R).2] 34)
  exact ⟨⟨ht, (hk.below hba).below hb4, hbw, by omega, by omega, hl3⟩, (hb4.block _ (lt_heap hx)).trans hx, rt, hm⟩
end Go.Proofs.YtonlbeonblpblaaDoor.A36
namespace Go.Proofs.YtonlbeonblpblaaDoor.A36
open Go.RowKit Go.Proofs.YtonlbeonblpblaaDoorW.PrintWords Go.Proofs.YtonlbeonblpblaaDoorW.PrintLast Go.Proofs.YtonlbeonblpblaaDoorW.PrintMore Go.Proofs.YtonlbeonblpblaaDoor.Wd
set_option linter.unusedVariables false
set_option linter.unusedSimpArgs false
private theorem ymTextLaw (motive : Option Value → Sort _) (h1 : (b : Bool) → motive (some (.bool b))) (h2 : (x : Option Value) → motive x) : Go.yielded.match_1 motive (some undef) h1 h2 = h2 (some undef) := rfl
attribute [local go_sem, local simp] ymTextLaw
/-- A rule as the print has it. -/
abbrev PS := Go.Proofs.YtonlbeonblpblaaDoor.All.S46
def toS (r : Ru) : PS := ⟨r.k, r.l, r.f⟩
def ofS (r : PS) : Ru := ⟨r.f0, r.f1, r.f2⟩
theorem of_to (R : List Ru) : (R.map toS).map ofS = R := by
  rw [List.map_map]
  exact List.map_id R
theorem C_map {α β : Type} {d : Kd α} {d' : Kd β} {f : α → β} (hsz : d.sz = d'.sz) (hK : ∀ w a cs, d.K w a cs → d'.K w (f a) cs) {w : World} {A : Option Addr} {xs : List α} (h : Kd.C d w A xs.length xs) : Kd.C d' w A (xs.map f).length (xs.map f) := by
  obtain ⟨h1, h2, h3⟩ := h
  rw [List.length_map]
  refine ⟨by rw [List.length_map], h2, fun hp => ?_⟩
  obtain ⟨ad, e, hc⟩ := h3 hp
  refine ⟨ad, e, fun j b hj => ?_⟩
  rw [List.getElem?_map] at hj
  cases hx : xs[j]? with
  | none => rw [hx] at hj; cases hj
  | some x =>
    rw [hx] at hj
    injection hj with hj
    subst hj
    obtain ⟨c, hl, hk, hu⟩ := hc j x hx
    exact ⟨c, by rw [hl, hsz], hK _ _ _ hk, by rw [← hsz]; exact hu⟩
theorem C_to {w : World} {A : Option Addr} {R : List Ru} (h : Kd.C kRu w A R.length R) : Kd.C Go.Proofs.YtonlbeonblpblaaDoor.All.k46 w A (R.map toS).length (R.map toS) := C_map (f := toS) rfl (fun w a cs h => h) h
theorem C_of {w : World} {A : Option Addr} {R : List PS} (h : Kd.C Go.Proofs.YtonlbeonblpblaaDoor.All.k46 w A R.length R) : Kd.C kRu w A (R.map ofS).length (R.map ofS) := C_map (f := ofS) rfl (fun w a cs h => h) h
theorem right_to {r : Ru} (h : rightB r = true) : Go.Proofs.YtonlbeonblpblaaDoor.Pl.rightB (toS r).f0 (toS r).f1 (toS r).f2 = true := by
  have e : ∀ n, Go.Proofs.YtonlbeonblpblaaDoor.Pl.spanB n = spanB n := fun n => by
    unfold Go.Proofs.YtonlbeonblpblaaDoor.Pl.spanB spanB
    by_cases h1 : 1 ≤ n <;> by_cases h2 : n ≤ 1073741824 <;> simp [h1, h2]
  unfold Go.Proofs.YtonlbeonblpblaaDoor.Pl.rightB
  unfold rightB at h
  simp only [toS, e]
  exact h
/-- What the text of right rules is, and what is read of it. -/
theorem there_back {R : List Ru} (rt : Rt R) : ∃ s : ByteArray, (∃ k, Go.Proofs.YtonlbeonblpblaaDoor.All.calrule_Text.f k (R.map toS) = some (s, 0)) ∧ ∃ k, Go.Proofs.YtonlbeonblpblaaDoor.All.calrule_Parse.f k s = some (R.map toS, 0, 0) := by
  have hall : Go.Proofs.YtonlbeonblpblaaDoor.Pl.allR (R.map toS) := fun r hr => by
    obtain ⟨x, hx, rfl⟩ := List.mem_map.1 hr
    exact right_to (rt.r x hx)
  have ht := Go.Proofs.YtonlbeonblpblaaDoor.Pl.text_of (R.map toS) hall (by rw [List.length_map]; exact rt.len)
  obtain ⟨h1, _⟩ := Go.Proofs.YtonlbeonblpblaaDoor.Pl.text_back (R.map toS) (by rw [ht])
  have hs := Go.Proofs.YtonlbeonblpblaaDoor.Pl.text_small (R.map toS)
  have e1 := (Go.Proofs.YtonlbeonblpblaaDoor.Pl.texts_ev (R.map toS)).rounds
  have e2 := (Go.Proofs.YtonlbeonblpblaaDoor.Pl.parse_ev (Go.Proofs.YtonlbeonblpblaaDoor.Pl.textS (R.map toS)).1 (by omega)).rounds
  rw [h1] at e2
  refine ⟨(Go.Proofs.YtonlbeonblpblaaDoor.Pl.textS (R.map toS)).1, ?_, e2⟩
  obtain ⟨k, hk⟩ := e1
  refine ⟨k, ?_⟩
  rw [hk, ht]
set_option maxRecDepth 100000 in
set_option maxHeartbeats 4000000 in
theorem text_skip (A0 P : Option Addr) (c0 cs n : Nat) (R : List Ru) (num : Int) (w : World) (hR : RuRow w w.heap.size A0 R) (hl : R.length ≤ maxLen) (h : 30 < n ∨ rightL R = false) :
    Calls Tryd.prog 3 #[.slice A0 R.length c0, .slice P n cs, .int .u64 num] w fun e w' => e = .returned (.bool true) ∧ Below w.heap.size w w' := by
  replace hR := Lib.hid hR
  by_cases h30 : 30 < n
  · have q1 : decide ((30 : Int) < (n : Int)) = true := decide_eq_true (by omega)
    go_enter Tryd.func3, Tryd.ntmps3
    go_wp2_with (go_at_call 4; refine (awake_calls _).mono ?_; rintro e w1 ⟨rfl, hb1⟩; replace hb1 := Lib.hid hb1)
    go_ret
    exact ⟨rfl, hb1.out⟩
  · have q1 : decide ((30 : Int) < (n : Int)) = false := decide_eq_false (by omega)
    have hv := Lib.hid (rightV_no (h.resolve_left h30))
    clear h
    go_enter Tryd.func3, Tryd.ntmps3
    go_wp2_with (first
      | (go_at_call 4; refine (awake_calls _).mono ?_; rintro e w1 ⟨rfl, hb1⟩; replace hb1 := Lib.hid hb1)
      | (go_at_call 5; refine (right16_calls (hR.out.up hb1.out) hl).mono ?_; rintro e w2 ⟨rfl, hb2⟩; rw [hv.out]; replace hb2 := Lib.hid (hb1.out.trans (hb2.mono hb1.out.size))))
    go_ret
    exact ⟨rfl, hb2.out⟩
set_option maxRecDepth 100000 in
set_option maxHeartbeats 4000000 in
theorem text_in (A0 P : Option Addr) (c0 cs : Nat) (R : List Ru) (L : List Int) (num : Int) (w : World) (hC : Kd.C kRu w A0 R.length R) (hc0 : R.length ≤ c0) (hr : rightL R = true) (hS : Reads w w.heap.size 1 P L.length (L.map (Value.int .u8))) (hs : Steps L) (h30 : L.length ≤ 30) (hU : Go.Proofs.YtonlbeonblpblaaDoor.All.Units w) (hT : Go.Proofs.YtonlbeonblpblaaDoor.All.Tab w) :
    Calls Tryd.prog 3 #[.slice A0 R.length c0, .slice P L.length cs, .int .u64 num] w fun e w' => e = .returned (.bool true) ∧ Below w.heap.size w w' := by
  have rt : Rt R := ⟨(rightL_parts hr).1, (rightL_parts hr).2⟩
  have hl : R.length ≤ maxLen := Nat.le_trans rt.len (by decide)
  have hv := Lib.hid (rightV_yes hr)
  have q1 : decide ((30 : Int) < (L.length : Int)) = false := decide_eq_false (by omega)
  have G := Lib.hid (mkM_good hs (Nat.le_refl _) h30)
  have hR := Lib.hid (ru_row hC)
  obtain ⟨s, ⟨kt, hkt⟩, kp, hkp⟩ := there_back rt
  replace hC := C_to hC
  have XT := Lib.hid (fun (w1 : World) (hb : Below w.heap.size w w1) => by
    have := Go.Proofs.YtonlbeonblpblaaDoor.All.calrule_Text.calls kt A0 c0 (R.map toS) s 0 w1 (Kd.C_below hC hb) (by rw [List.length_map]; exact hc0) (Go.Proofs.YtonlbeonblpblaaDoor.All.Tab.below hT hb) hkt
    rw [List.length_map] at this
    exact this)
  have XP := Lib.hid (fun (w1 : World) (hb : Below w.heap.size w w1) => Go.Proofs.YtonlbeonblpblaaDoor.All.calrule_Parse.calls kp s (R.map toS) 0 0 w1 (Go.Proofs.YtonlbeonblpblaaDoor.All.Units.below hU hb) hkp)
  have RT := Lib.hid rt
  replace hS := Lib.hid hS
  replace hs := Lib.hid hs
  clear hr rt hC hc0 hU hT hkt hkp
  go_enter Tryd.func3, Tryd.ntmps3
  go_upto_region 6 with (first
      | (go_at_call 4; refine (awake_calls _).mono ?_; rintro e w1 ⟨rfl, hb1⟩; replace hb1 := Lib.hid hb1)
      | (go_at_call 5; refine (right16_calls (hR.out.up hb1.out) hl).mono ?_; rintro e w2 ⟨rfl, hb2⟩; rw [hv.out]; replace hb2 := Lib.hid (hb1.out.trans (hb2.mono hb1.out.size)))
      | (go_at_call 6; (with_reducible refine (XT.out _ hb2.out).mono ?_); rintro e w3 ⟨rfl, hb3⟩; replace hb3 := Lib.hid (hb2.out.trans (hb3.mono hb2.out.size))))
  go_upto_region 9 with (go_at_call 7; (with_reducible refine (XP.out _ hb3.out).mono ?_); rintro e w4 ⟨v4, rfl, ho4, hb4⟩; obtain ⟨A6, c6, rfl, hc6, hr6⟩ := Kd.R_reads ho4; rw [List.length_map]; replace hr6 := C_of hr6; rw [of_to] at hr6; have R6 := Lib.hid (ru_row hr6); replace hb4 := Lib.hid (hb3.out.trans (hb4.mono hb3.out.size)); clear ho4 hr6)
  clear XT XP hb1 hb2 hb3 hc6 hv
  go_upto_region 10 with (go_at_call 8; (with_reducible refine (comp_lw hR.out RT.out hb4.out).mono ?_); rintro e w7 ⟨A, c, ks, rfl, hk7, hm7, hb7⟩; replace hb7 := Lib.hid hb7; replace hk7 := Lib.hid hk7; replace hm7 := Lib.hid hm7)
  have X7 := Lib.hid (below_alloc (Below.refl w7.heap.size w7) (.cells #[.slice A ks.length c, .int .i64 (neverF R).1, .bool (neverF R).2] 34))
  have hb67 := Lib.hid (hb7.out.trans (X7.out.mono hb7.out.size))
  have C2 : Hid (∀ W, Below w4.heap.size w4 W → Calls Tryd.prog 8 #[.slice A6 R.length c6] W (CompPost R W)) := Lib.hid (fun W h => compile_ok (c0 := c6) (R6.out.up h) RT.out.len RT.out.r)
  go_upto_region 11 with (go_at_call 8; (with_reducible refine (C2.out _ hb67.out).mono ?_); rintro e w8 ⟨A2, c2, ks2, rfl, hk8, hm8, hb8⟩; replace hb8 := Lib.hid hb8; replace hk8 := Lib.hid hk8; replace hm8 := Lib.hid hm8)
  have X8 := Lib.hid (below_alloc (Below.refl w8.heap.size w8) (.cells #[.slice A2 ks2.length c2, .int .i64 (neverF R).1, .bool (neverF R).2] 34))
  have hbw := Lib.hid (hb4.out.trans (hb67.out.mono hb4.out.size))
  have hbw8 := Lib.hid ((hbw.out.trans (hb8.out.mono hbw.out.size)).trans (X8.out.mono (Nat.le_trans hbw.out.size hb8.out.size)))
  have hb88 := Lib.hid (hb8.out.trans (X8.out.mono hb8.out.size))
  go_upto_region 12 with (go_at_call 9; (with_reducible refine (made_calls (B := w.heap.size) (hS.out.below hbw8.out) hbw8.out.size hs.out h30).mono ?_); rintro e w9 ⟨b, gx, rfl, ⟨base, A4, c4, hl1, hl2, hl3, ht4⟩, hx4, hb9⟩; have H1 := Lib.hid (lw_mk RT.out hb4.out hk7.out hm7.out hb7.out (Nat.le_trans hb88.out.size hl1) (Nat.le_trans hb88.out.size hl2) hl3 ⟨_, _, ht4⟩ (hb88.out.trans (hb9.mono hb88.out.size))); have H2 := Lib.hid (lw_mk RT.out hbw.out hk8.out hm8.out hb8.out hl1 hl2 hl3 ⟨_, _, ht4⟩ hb9); clear hl1 hl2 hl3 ht4 hx4 hb9)
  generalize mkM L L.length = M at *
  clear hk7 hm7 hb7 X7 hb67 hk8 hm8 hb8 X8 hbw hbw8 hb88 hb4 hS hs hR C2 RT R6
  generalize (w7.alloc (.cells #[.slice A ks.length c, .int .i64 (neverF R).1, .bool (neverF R).2] 34)).heap.size = kb2 at *
  generalize w7.heap.size = qa at *
  generalize w8.heap.size = qb at *
  generalize w4.heap.size = kb1 at *
  have T1 := fun w5 h => LW.till (w := w) (wr := w5) (R := R) (base := base) (b := b) (kb := kb1) (q := qa) (A := A) (c := c) (ks := ks) h G.out num
  have T2 := fun w5 h => LW.till (w := w) (wr := w5) (R := R) (base := base) (b := b) (kb := kb2) (q := qb) (A := A2) (c := c2) (ks := ks2) h G.out num
  generalize tl R M num = t at *
  replace T1 := Lib.hid T1
  replace T2 := Lib.hid T2
  have N1 := Lib.hid (fun w5 => never_calls A ks.length c (neverF R) w5)
  have N2 := Lib.hid (fun w5 => never_calls A2 ks2.length c2 (neverF R) w5)
  have hc9 := And.intro H1.out.cells H2.out.cells
  go_upto_region 13 with (go_at_call 10; (with_reducible refine (N1.out _).mono ?_); rintro e w10 ⟨rfl, hb10⟩; have H1a := Lib.hid (H1.out.below hb10); have H2a := Lib.hid (H2.out.below hb10); have hc10 := And.intro H1a.out.cells H2a.out.cells; clear hb10)
  clear hc9 H1 H2
  go_upto_region 14 with (go_at_call 10; (with_reducible refine (N2.out _).mono ?_); rintro e w11 ⟨rfl, hb11⟩; have H1b := Lib.hid (H1a.out.below hb11); have H2b := Lib.hid (H2a.out.below hb11); have hc11 := And.intro H1b.out.cells H2b.out.cells; clear hb11)
  clear hc10 H1a H2a N1 N2
  go_region_held3 (fun w' => (w'.cell? { block := qa, off := 0 } = some (.slice A ks.length c) ∧ w'.cell? { block := qa, off := 1 } = some (.int .i64 (neverF R).1) ∧ w'.cell? { block := qa, off := 2 } = some (.bool (neverF R).2)) ∧ w'.cell? { block := qb, off := 0 } = some (.slice A2 ks2.length c2) ∧ w'.cell? { block := qb, off := 1 } = some (.int .i64 (neverF R).1) ∧ w'.cell? { block := qb, off := 2 } = some (.bool (neverF R).2)) (first | exact hc11 | exact hc12 | exact hc13)
    ((first
      | (go_at_call 11
         (with_reducible refine (T1.out _ (H1b.out.below (below_drew (Below.refl _ _)))).mono ?_)
         rintro e w12 ⟨rfl, hb12⟩
         have H1c := Lib.hid (H1b.out.below ((below_drew (Below.refl _ _)).trans hb12))
         have H2c := Lib.hid (H2b.out.below ((below_drew (Below.refl _ _)).trans hb12))
         have hc12 := And.intro H1c.out.cells H2c.out.cells
         clear hb12)
      | (go_at_call 11
         (with_reducible refine (T2.out _ H2c.out).mono ?_)
         rintro e w13 ⟨rfl, hb13⟩
         have H1d := Lib.hid (H1c.out.below hb13)
         have H2d := Lib.hid (H2c.out.below hb13)
         have hc13 := And.intro H1d.out.cells H2d.out.cells
         clear hb13)))
  go_wp2
  go_ret
  exact ⟨by simp, H1d.out.kt.bel⟩
theorem text_any (A0 : Option Addr) (c0 : Nat) (R : List Ru) (P : Option Addr) (cs : Nat) (L : List Int) (num : Int) (w : World) (hR : Kd.C kRu w A0 R.length R) (hc0 : R.length ≤ c0) (hl : R.length ≤ maxLen) (hS : Kd.C (Kd.int .u8) w P L.length L) (hw : ∀ a ∈ L, (Lit.int .u8 a).wf = true) (hU : Go.Proofs.YtonlbeonblpblaaDoor.All.Units w) (hT : Go.Proofs.YtonlbeonblpblaaDoor.All.Tab w) :
    Calls Tryd.prog 3 #[.slice A0 R.length c0, .slice P L.length cs, .int .u64 num] w fun e w' => e = .returned (.bool true) ∧ Below w.heap.size w w' := by
  by_cases h30 : L.length ≤ 30
  · cases hr : rightL R with
    | true => exact text_in A0 P c0 cs R L num w hR hc0 hr (steps_came hS) (steps_wf hw) h30 hU hT
    | false => exact text_skip A0 P c0 cs L.length R num w (ru_row hR) hl (.inr hr)
  · exact text_skip A0 P c0 cs L.length R num w (ru_row hR) hl (.inl (by omega))
end Go.Proofs.YtonlbeonblpblaaDoor.A36
