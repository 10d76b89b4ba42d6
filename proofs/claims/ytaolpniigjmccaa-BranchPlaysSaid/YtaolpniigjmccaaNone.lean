/-
  The law BranchNone's walk: it tells true of every input. No condition.
-/
import Derived.Test.YtaolpniigjmccaaAlike
import Derived.Test.YtaolpniigjmccaaDeep
import Derived.Test.YtaolpniigjmccaaFreeClone
import Derived.Test.YtaolpniigjmccaaBases
namespace Go.Proofs.Ytaolpniigjmccaa.All
open Go.RowKit Go.Proofs.YtaolpniigjmccaaW.PrintWords Go.Proofs.YtaolpniigjmccaaW.PrintLast Go.Proofs.YtaolpniigjmccaaW.PrintMore Go.Proofs.Ytaolpniigjmccaa.Wd
set_option linter.unusedVariables false
set_option linter.unusedSimpArgs false
private theorem ym (motive : Option Value → Sort _) (h1 : (b : Bool) → motive (some (.bool b))) (h2 : (x : Option Value) → motive x) : Go.yielded.match_1 motive (some undef) h1 h2 = h2 (some undef) := rfl
attribute [local go_sem, local simp] ym
attribute [local go_sem] Oper.semAt_some
/-- What lies at a place, behind the loop. -/
structure NB (w : World) (D : Nat) (W : World) : Prop where
  d : W.heap[D]? = some (.deferred (some []))
  c : W.heap[w.heap.size]? = some (.cells #[.bool false] 4)
  b : Below w.heap.size w W
  lt : w.heap.size < D
theorem NB.below {w W W2 : World} {D : Nat} (h : NB w D W) (hb : Below W.heap.size W W2) : NB w D W2 :=
  ⟨(hb.block D (Array.getElem?_eq_some_iff.1 h.d).1).trans h.d, (hb.block _ (Array.getElem?_eq_some_iff.1 h.c).1).trans h.c, below_then h.b h.b.size hb, h.lt⟩
theorem NB.chg {w W W2 : World} {D b : Nat} (h : NB w D W) (hc : Chg (· = b) W W2) (hD : D < b) : NB w D W2 :=
  ⟨hc.old h.d (by show D ≠ b; omega), hc.old h.c (by have := h.lt; show w.heap.size ≠ b; omega), chg_below h.b hc (by have := h.lt; omega), h.lt⟩
theorem NB.at {w W : World} {D : Nat} (h : NB w D W) : D < W.heap.size := (Array.getElem?_eq_some_iff.1 h.d).1
theorem at_zero (w : World) (o : Obj) : At ((w.alloc (.cells (fc newF).toArray 69)).alloc o) w.heap.size 69 newF :=
  ⟨rfl, ((below_alloc (Below.refl _ _) o).block _ (by simp)).trans (heap_alloc_new w _)⟩
theorem xat_zero (w : World) (o : Obj) : XAt ((w.alloc o).alloc (.cells #[.slice none 0 0] 47)) (w.heap.size + 1) none 0 (refL newF) := xat_new (by
  have := heap_alloc_new (w.alloc o) (.cells #[.slice none 0 0] 47)
  rwa [World.size_alloc] at this)
theorem results_bool {P : Program} {fn : Func} {p : Tmp} {ty : TypeId} (h : fn.results = #[.cell p ty]) (tmps : Array Value) (w : World) (g : Nat) (v : Value) (k : TypeDesc) (hp : tmps.getD p undef = .pointer (some ⟨g, 0, none⟩)) (hg : w.cell? ⟨g, 0, none⟩ = some v)
    (hu : P.underlying ty = some k) (hk : (match k with | .struct _ | .array _ _ => true | _ => false) = false) :
    (results fn tmps).run P w = .ok v w := by
  have hp' : tmps[p]?.getD undef = .pointer (some ⟨g, 0, none⟩) := by simpa using hp
  have hagg : (isAgg ty).run P w = .ok false w := by
    unfold isAgg
    rw [Sem.run_bind, run_underlying hu w]
    cases k <;> simp_all
  simp [results, h, hp', asAddr, loadVar, hagg, hg]
theorem range_none {n : Nat} {P : Program} {α : Type} {g : Operand} {ps : Array Tmp} {body : Code} {Q : Exit → Act → World → Prop} {a : Act} {w : World} (h1 : 1 ≤ n) {gf : Nat} {lb : Array Value} (hg : a.eval g = .func (.func gf) #[] lb)
    (he : ∀ (args : Array Value) (w : World), Sem.run P (callFunc gf args) w = Result.ok (Next.enter gf args) w) {encs : α → Array Value} {Kp : World → World → Prop} {S Sp : List α → Prop} {w0 : World}
    (hs : SeqStopsK Fence.wide (n - 1) P gf lb encs Kp S Sp 0 w0) (ht : ∀ {A B C : World}, Kp A B → Kp B C → Kp A C)
    (hp : ∀ (W : World) (l : Nat) (o o' : Obj), w.heap.size ≤ l → W.heap[l]? = some o → o.isCells = false → o.isWalk = false → Kp W (W.putObj l o')) (hb : Below w0.heap.size w0 w) (hz : ∀ (x : α), (encs x).size = ps.size)
    (I : List α → World → Prop) (ho : OwnFrom w.heap.size I) (hi : I [] w) (hno : ∀ xs, ¬ Sp xs)
    (hd : ∀ (D : Nat) (xs : List α) (W : World), w.heap.size ≤ D → S xs → I xs W → W.heap[D]? = some (Obj.deferred (some [])) → Q Exit.normal { tmps := a.tmps, defers := { target := Target.collected D, args := #[] } :: a.defers } W) :
    Code.wpIn Fence.wide n P (Code.rangeFunc g ps Code.skip body) Q a w :=
  wpIn_rangeFunc_ownG rfl h1 hg trivial he hs ht hp hb hz I (fun _ _ _ => False) ho (fun _ _ _ _ _ hs _ _ => hs) hi (fun x => { tmps := Array.foldl (fun t x => match x with | (p, v) => t.setIfInBounds p v) a.tmps (ps.zip (encs x)), defers := [] })
    (fun l x W K hK => wpIn_skip hK) (fun l pre x W _ hlt => absurd hlt (Nat.not_lt_zero _)) hd (fun D c xs W _ h _ _ => absurd h (hno xs))
set_option maxRecDepth 100000 in
set_option maxHeartbeats 2000000 in
theorem none_in (n : Nat) (hn : 3 ≤ n) (id m : Int) (w : World) :
    CallsIn Fence.wide n Try.prog 9 #[.int .i64 id, .int .u64 m] w fun e w' => e = .returned (.bool true) ∧ Below w.heap.size w w' := by
  have h1 : 1 ≤ n := by omega
  refine callsIn_of_wp_marks Try.func9 rfl trivial ?_ rfl
  simp only [Try.ntmps9, List.size_toArray, List.length_cons, List.length_nil, Nat.reduceAdd, Nat.reduceSub, Array.replicate_succ, Array.replicate_zero, List.push_toArray, List.append_toArray, List.nil_append, List.cons_append]
  gi_wp2_with (first
    | (refine ⟨trivial, ?_⟩; gi_at_call 10; refine (callsIn_wide.2 (awake_calls _)).mono ?_; rintro e w1 ⟨rfl, hb1⟩; replace hb1 := Lib.hid hb1)
    | (refine ⟨trivial, ?_⟩; gi_at_call 16; refine (callsIn_wide.2 (parent_nil _ _)).mono ?_; rintro e w' ⟨rfl, rfl⟩)
    | (refine ⟨trivial, ?_⟩; gi_at_call 15; refine (callsIn_wide.2 (num_nil _ _)).mono ?_; rintro e w' ⟨rfl, rfl⟩)
    | (refine ⟨trivial, ?_⟩; gi_at_call 23; refine (callsIn_wide.2 (free_nil _)).mono ?_; rintro e w' ⟨rfl, rfl⟩)
    | (refine ⟨trivial, ?_⟩; gi_at_call 14; refine (callsIn_wide.2 (line_nil _ _ _)).mono ?_; rintro e w' ⟨rfl, rfl⟩)
    | (refine ⟨trivial, ?_⟩; gi_at_call 28; refine (all_in (n - 1) _ _).mono ?_; rintro e w' ⟨rfl, rfl⟩))
  have hb1w := hb1.out
  have hbw : Below w.heap.size w w1 := (below_alloc (Below.refl _ _) (.cells #[.bool false] 4)).trans (hb1w.mono (by simp))
  have hcell : w1.heap[w.heap.size]? = some (.cells #[.bool false] 4) := (hb1w.block _ (by simp)).trans (heap_alloc_new w _)
  have bC : Boxed w1 w.heap.size 4 (.bool false) := hcell
  have hlt : w.heap.size < w1.heap.size := (Array.getElem?_eq_some_iff.1 hcell).1
  have bN := Boxed.new w1 27 (.pointer none)
  refine range_none h1 (gf := 38) (lb := #[.pointer (some ⟨w1.heap.size, 0, none⟩)]) rfl (enters_of Try.func38 (by kernel_rfl) rfl)
    (all_none (n - 1) (by omega) w1.heap.size _ bN (fun _ _ => True)) (fun _ _ => trivial) (fun _ _ _ _ _ _ _ _ => trivial) (Below.refl _ _) (fun _ => rfl)
    (fun (_ : List Int) W => Boxed W w.heap.size 4 (.bool false) ∧ Below w.heap.size w W)
    (OwnFrom.and (Own.from (boxed_own _ _ _) _) (ownFrom_below (by simp) (by simp; omega)))
    ⟨bC.alloc _, below_alloc hbw _⟩ (fun _ h => h) ?done
  case done =>
    rintro D ys W hD rfl ⟨hv, hB⟩ hK
    have HN : NB w D W := ⟨hK, hv, hB, by simp at hD; omega⟩
    replace HN := Lib.hid HN
    clear hv hB hK hb1 hb1w hbw hcell bC bN hlt
    gi_wp2_with (first
      | (refine ⟨trivial, ?_⟩; gi_at_call 22; refine (callsIn_wide.2 (alike_is ok_new (at_zero _ _) (xat_zero _ _) _ _)).mono ?_; rintro e w3 ⟨rfl, hb3⟩; have hA3 := Lib.hid ((at_zero w2 (.cells #[.slice none 0 0] 47)).below hb3); have hlt2 := HN.out.at; replace HN := Lib.hid ((HN.out.below (below_alloc (below_alloc (Below.refl _ _) (.cells (fc newF).toArray 69)) (.cells #[.slice none 0 0] 47))).below hb3); clear hb3)
      | (refine ⟨trivial, ?_⟩; gi_at_call 13; refine (callsIn_wide.2 (fork_calls newF w2.heap.size 1 0 1 2 _ hA3.out)).mono ?_; rintro e w4 ⟨rfl, _, hc4⟩; replace HN := Lib.hid (HN.out.chg hc4 hlt2); rw [show forkC newF 1 0 1 2 = 0 by kernel_rfl]; have hcc := Boxed.cell (W := w4) (B := w.heap.size) (t := 4) (v := .bool false) HN.out.c; have hff := Boxed.frozen (W := w4) (B := w.heap.size) (t := 4) (v := .bool false) HN.out.c)
      | (refine ⟨trivial, ?_⟩; gi_at_call 21; refine (callsIn_wide.2 (alive_nil _ _)).mono ?_; rintro e w' ⟨rfl, rfl⟩)
      | (refine ⟨trivial, ?_⟩; gi_at_call 19; refine (callsIn_wide.2 (kids_nil _ _)).mono ?_; rintro e w' ⟨rfl, rfl⟩)
      | (refine ⟨trivial, ?_⟩; gi_at_call 18; refine (callsIn_wide.2 (bases_nil _)).mono ?_; rintro e w2 ⟨v2, rfl, ho2, hb2⟩; obtain ⟨A2, c2, rfl⟩ := own_slice ho2; replace HN := Lib.hid (HN.out.below hb2); clear ho2 hb2)
      | (refine ⟨trivial, ?_⟩; gi_at_call 24; refine (callsIn_wide.2 (clone_nil _)).mono ?_; rintro e w' ⟨rfl, rfl⟩)
      | (refine ⟨trivial, ?_⟩; gi_at_call 13; refine (callsIn_wide.2 (fork_nil _ _ _ _ _)).mono ?_; rintro e w' ⟨rfl, rfl⟩)
      | (refine ⟨trivial, ?_⟩; gi_at_call 12; refine (callsIn_wide.2 (drop_nil _ _)).mono ?_; rintro e w' ⟨rfl, rfl⟩))
    have hD1 : (w4.setCell { block := w.heap.size, off := 0 } (.bool true)).heap[D]? = some (.deferred (some [])) := (Below.heap_setCell w4 { block := w.heap.size, off := 0 } _ D (by have := HN.out.lt; show D ≠ w.heap.size; omega)).trans HN.out.d
    refine ⟨by simp, .inl ⟨_, _, rfl, run_takeDeferred hD1, ?_⟩⟩
    have hB1 : Below w.heap.size w (w4.setCell { block := w.heap.size, off := 0 } (.bool true)) := HN.out.b.setCell (p := { block := w.heap.size, off := 0 }) (Nat.le_refl _) _
    have hV : (w4.setCell { block := w.heap.size, off := 0 } (.bool true)).heap[w.heap.size]? = some (.cells #[.bool true] 4) := by simp [World.setCell, Array.getElem?_modify, HN.out.c]
    have hV2 : ((w4.setCell { block := w.heap.size, off := 0 } (.bool true)).putObj D (Obj.deferred none)).heap[w.heap.size]? = some (.cells #[.bool true] 4) := by
      rw [← hV]
      exact World.putObj_heap_other (by have := HN.out.lt; omega)
    exact ⟨_, results_bool rfl _ _ w.heap.size (.bool true) _ rfl (Boxed.cell (t := 4) hV2) Try.underlying4 rfl, rfl, hB1.trans (belowK_b (w := w) (Nat.le_refl _) _ D _ _ (Nat.le_of_lt HN.out.lt) hD1 rfl rfl)⟩
theorem none_calls (id m : Int) (w : World) : Calls Try.prog 9 #[.int .i64 id, .int .u64 m] w fun e w' => e = .returned (.bool true) ∧ Below w.heap.size w w' :=
  callsIn_wide.1 (none_in 3 (Nat.le_refl _) id m w)
end Go.Proofs.Ytaolpniigjmccaa.All
