/-
  What Go's memory holds, read as typed Lean data: a reading of the row's form ('DataW.trod') gives a value of the print's kinds ('Kd').
  Conditions: the reading's weights are within the row's reach.
-/
import Derived.Test.YtonlbeonblpblaaDoorWWords
import Derived.ChangeSlices
import Derived.ChangeArms
import Derived.DataReads
import Derived.Deep.Slices
import Derived.SizedLaws
namespace Go.Proofs.YtonlbeonblpblaaDoorO
open Go.RowKit Go.ChangeShapes Go.WideShapes Go.Deep
open Go.Proofs.YtonlbeonblpblaaDoorW.PrintWords hiding add_add
set_option linter.unusedVariables false
set_option linter.unusedSimpArgs false

section
variable {H : Type} {enc : TypeId × Value → H} {P : Program}

/-- Whatever reads as type t is a value of kind d. -/
def Opens (enc : TypeId × Value → H) (P : Program) (t : TypeId) {α : Type} (d : Kd α) (good : α → Prop) : Prop :=
  P.cellsOf t = d.sz ∧ ∀ (W : World) (fuel : Nat) (cs : List Value) (x : DataW H × List MemPlace),
    DataW.trod enc P W 0 (fun _ => true) true fuel t cs = some x → (∀ m ∈ x.1.weights P t, m ≤ reachBytes) → ∃ a, d.K W a cs ∧ good a

theorem Opens.imp {t : TypeId} {α : Type} {d : Kd α} {good good' : α → Prop} (h : Opens enc P t d good) (hg : ∀ a, good a → good' a) : Opens enc P t d good' :=
  ⟨h.1, fun W n cs x hx hw => by
    obtain ⟨a, hk, ha⟩ := h.2 W n cs x hx hw
    exact ⟨a, hk, hg a ha⟩⟩

theorem opens_int {t : TypeId} {k : IntKind} (ht : P.underlying t = some (.int k)) (hc : P.cellsOf t = 1) : Opens enc P t (Kd.int k) (fun a => (Lit.int k a).wf = true) :=
  ⟨hc, fun W n cs x h _ => by
    obtain ⟨a, rfl, rfl, hw⟩ := DataW.trod_int ht h
    exact ⟨a, rfl, hw⟩⟩

theorem opens_bool {t : TypeId} (ht : P.underlying t = some .bool) (hc : P.cellsOf t = 1) : Opens enc P t Kd.bool (fun _ => True) :=
  ⟨hc, fun W n cs x h _ => by
    obtain ⟨a, rfl, rfl⟩ := DataW.trod_bool ht h
    exact ⟨a, rfl, trivial⟩⟩

theorem opens_string {t : TypeId} (ht : P.underlying t = some .string) (hc : P.cellsOf t = 1) : Opens enc P t Kd.string (fun s => s.size ≤ 140737488351232) :=
  ⟨hc, fun W n cs x h hw => by
    obtain ⟨a, rfl, rfl, _⟩ := DataW.trod_string ht h
    refine ⟨a, rfl, ?_⟩
    have z := hw a.data.toList.length (by simp [DataW.weights])
    rw [Array.length_toList] at z
    exact z⟩

theorem weights_all {e : TypeId} : ∀ {l : List (DataW H)} {y : DataW H}, y ∈ l → ∀ q ∈ y.weights P e, q ∈ DataW.weightsAll P e l
  | z :: l, y, hy, q, hq => by
    simp only [DataW.weightsAll, List.mem_append]
    rcases List.mem_cons.1 hy with rfl | hy
    · exact Or.inl hq
    · exact Or.inr (weights_all hy q hq)

theorem list_of {α : Type} {p : Nat → α → Prop} : ∀ (n : Nat), (∀ i, i < n → ∃ b, p i b) → ∃ l : List α, l.length = n ∧ ∀ i b, l[i]? = some b → p i b
  | 0, _ => ⟨[], rfl, fun i b h => by simp at h⟩
  | n + 1, h => by
    obtain ⟨l, hl, hp⟩ := list_of n (fun i hi => h i (Nat.lt_succ_of_lt hi))
    obtain ⟨b, hb⟩ := h n (Nat.lt_succ_self n)
    refine ⟨l ++ [b], by simp [hl], fun i c hc => ?_⟩
    by_cases hi : i < n
    · rw [List.getElem?_append_left (by omega)] at hc
      exact hp i c hc
    · have hlt : i < (l ++ [b]).length := (List.getElem?_eq_some_iff.1 hc).1
      simp [hl] at hlt
      obtain rfl : i = n := by omega
      rw [List.getElem?_append_right (by omega)] at hc
      simp [hl] at hc
      subst hc
      exact hb

theorem opens_slice {t e : TypeId} {α : Type} {d : Kd α} {good : α → Prop} (ht : P.underlying t = some (.slice e)) (hc : P.cellsOf t = 1) (h : Opens enc P e d good) :
    Opens enc P t (Kd.slice e d) (fun l => l.length ≤ maxLen ∧ l.length * P.bytesOf e ≤ 140737488351232 ∧ ∀ a ∈ l, good a) := by
  refine ⟨hc, fun W n cs x hx hw => ?_⟩
  rcases open_slice ht hx with ⟨rfl, rfl⟩ | ⟨a, len, cap, m, n', D, Pl, rfl, _, hl, hm, hmm, rfl, hi⟩
  · exact ⟨[], ⟨none, 0, rfl, Nat.le_refl _, Kd.C_nil d W⟩, by simp, by simp, by simp⟩
  · have hmc : m = cap := by simpa using hmm
    subst hmc
    have hw0 : (len + (m - len)) * P.bytesOf e ≤ reachBytes := hw _ (by simp [DataW.weights, ht])
    have hwi : ∀ i, i < len → ∀ q ∈ (D i).weights P e, q ≤ reachBytes := fun i hlt q hq => hw q (by
      simp only [DataW.weights, ht]
      exact List.mem_cons_of_mem _ (List.mem_append_left _ (weights_all (List.mem_map.2 ⟨i, List.mem_range.2 hlt, rfl⟩) q hq)))
    obtain ⟨l, hll, hp⟩ := list_of (p := fun i b => (∃ c, W.cells? 0 (a.add (i * P.cellsOf e)) (P.cellsOf e) = some c ∧ d.K W b c) ∧ good b) len (fun i hlt => by
      obtain ⟨c, hc1, hc2⟩ := hi i (by omega)
      obtain ⟨b, hb, hg⟩ := h.2 W n' c _ hc2 (hwi i hlt)
      exact ⟨b, ⟨c, hc1, hb⟩, hg⟩)
    refine ⟨l, ⟨some a, m, by rw [hll], by omega, hll ▸ ⟨hll, by unfold maxLen at hm; omega, fun _ => ⟨a, rfl, fun j b hj => ?_⟩⟩⟩, by omega, ?_, ?_⟩
    · obtain ⟨⟨c, hc1, hc2⟩, _⟩ := hp j b hj
      obtain ⟨_, hcl, hcc⟩ := World.cells?_some hc1
      refine ⟨c, d.K_len hc2, hc2, fun i u hu => ?_⟩
      have hil : i < c.length := (List.getElem?_eq_some_iff.1 hu).1
      rw [← h.1, ← add_add, hcc i (by omega)]
      exact hu
    · have : l.length * P.bytesOf e ≤ (len + (m - len)) * P.bytesOf e := Nat.mul_le_mul_right _ (by omega)
      exact Nat.le_trans this hw0
    · intro b hb
      obtain ⟨i, hi', rfl⟩ := List.mem_iff_getElem.1 hb
      exact (hp i _ (List.getElem?_eq_getElem hi')).2

/-- A struct's fields from one on. -/
def OpensFs (enc : TypeId × Value → H) (P : Program) (fs : List Field) (off : Nat) {α : Type} (d : Kd α) (good : α → Prop) : Prop :=
  ∀ (W : World) (n : Nat) (cs : List Value) (xs : List (DataW H × List MemPlace)), cs.length = off + d.sz → xs.length = fs.length →
    (∀ (i : Nat) (f : Field), fs[i]? = some f → DataW.trod enc P W 0 (fun _ => true) true n f.type ((cs.drop f.offset).take (P.cellsOf f.type)) = xs[i]?) →
    (∀ m ∈ DataW.weightsEach P (fs.map (·.type)) (xs.map (·.1)), m ≤ reachBytes) → ∃ a, d.K W a (cs.drop off) ∧ good a

theorem opensFs_last {f : Field} {off : Nat} {α : Type} {d : Kd α} {good : α → Prop} (ho : f.offset = off) (h : Opens enc P f.type d good) : OpensFs enc P [f] off d good := by
  intro W n cs xs hl hx hf hw
  match xs, hx with
  | [y], _ =>
    have h0 := hf 0 f rfl
    rw [ho, h.1, List.take_of_length_le (by rw [List.length_drop]; omega)] at h0
    exact h.2 W n _ y h0 (fun m hm => hw m (by simp [DataW.weightsEach, hm]))

theorem opensFs_cons {f : Field} {fs : List Field} {off : Nat} {α β : Type} {d : Kd α} {d' : Kd β} {good : α → Prop} {good' : β → Prop} (ho : f.offset = off) (h : Opens enc P f.type d good) (h' : OpensFs enc P fs (off + d.sz) d' good') :
    OpensFs enc P (f :: fs) off (Kd.pair d d') (fun a => good a.1 ∧ good' a.2) := by
  intro W n cs xs hl hx hf hw
  match xs, hx with
  | y :: ys, hx =>
    have hl' : cs.length = off + (d.sz + d'.sz) := hl
    have h0 := hf 0 f rfl
    rw [ho, h.1] at h0
    obtain ⟨a, ha, hga⟩ := h.2 W n _ y h0 (fun m hm => hw m (by simp only [List.map_cons, DataW.weightsEach]; exact List.mem_append_left _ hm))
    obtain ⟨b, hb, hgb⟩ := h' W n cs ys (by omega) (by simpa using hx) (fun i g hg => by simpa using hf (i + 1) g (by simpa using hg)) (fun m hm => hw m (by simp only [List.map_cons, DataW.weightsEach]; exact List.mem_append_right _ hm))
    refine ⟨(a, b), ⟨(cs.drop off).take d.sz, cs.drop (off + d.sz), ?_, ha, hb⟩, hga, hgb⟩
    rw [← List.drop_drop, List.take_append_drop]

theorem opens_struct {t : TypeId} {fs : Array Field} {α β : Type} {d : Kd α} {good : α → Prop} (ht : P.underlying t = some (.struct fs)) (hc : P.cellsOf t = d.sz) (h : OpensFs enc P fs.toList 0 d good) (f : β → α) (g : α → β) (hfg : ∀ a, f (g a) = a) :
    Opens enc P t (Kd.iso d f) (fun b => good (f b)) := by
  refine ⟨hc, fun W n cs x hx hw => ?_⟩
  obtain ⟨xs, n', _, rfl, hl, hlen, hf⟩ := DataW.trod_struct ht hx
  obtain ⟨a, ha, hg⟩ := h W n' cs xs (by rw [hl, hc]; omega) (by simpa using hlen) (fun i f hi => hf i f (by simpa using hi)) (fun m hm => hw m (by simpa only [DataW.weights, ht] using hm))
  refine ⟨g a, ?_, ?_⟩
  · show d.K W (f (g a)) cs
    rw [hfg]
    simpa using ha
  · show good (f (g a))
    rw [hfg]
    exact hg
end

/-- The row's weights, of one argument. -/
theorem weigh {H : Type} {P : Program} {ts : List TypeId} {ds : List (DataW H)} (hsz : (DataW.weightsEach P ts ds).all (· ≤ reachBytes) = true) {j : Nat} {t : TypeId} {d : DataW H} (ht : ts[j]? = some t) (hd : ds[j]? = some d) : ∀ m ∈ d.weights P t, m ≤ reachBytes := fun m hm => by
  simpa using List.all_eq_true.1 hsz _ (DataW.weights_mem_each ht hd m hm)
end Go.Proofs.YtonlbeonblpblaaDoorO
