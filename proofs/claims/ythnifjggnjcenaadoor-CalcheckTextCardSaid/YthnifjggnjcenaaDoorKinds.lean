/-
  A rule, and a list of rules, as the row reads them. No condition.
-/
import Derived.Test.YthnifjggnjcenaaDoorOpen
import Derived.Test.YthnifjggnjcenaaDoorAllx0
namespace Go.Proofs.YthnifjggnjcenaaDoor.Kinds
open Go.RowKit Go.Proofs.YthnifjggnjcenaaDoorO Go.Proofs.YthnifjggnjcenaaDoor.All Go.Proofs.YthnifjggnjcenaaDoorW.PrintWords

theorem opens33 {H : Type} {enc : TypeId × Value → H} : Opens enc Tryd.prog 33 k33 (fun b => (Lit.int .i64 b.f0).wf = true ∧ (Lit.int .i64 b.f1).wf = true ∧ (Lit.int .i64 b.f2).wf = true) :=
  opens_struct Tryd.underlying33 (by kernel_rfl)
    (opensFs_cons rfl (opens_int Tryd.underlying3 (by kernel_rfl)) (opensFs_cons rfl (opens_int Tryd.underlying3 (by kernel_rfl)) (opensFs_last rfl (opens_int Tryd.underlying3 (by kernel_rfl)))))
    (fun x : S33 => (x.f0, x.f1, x.f2)) (fun a => ⟨a.1, a.2.1, a.2.2⟩) (fun _ => rfl)
theorem opens23 {H : Type} {enc : TypeId × Value → H} : Opens enc Tryd.prog 23 (Kd.slice 33 k33) (fun l => l.length ≤ maxLen ∧ l.length * Tryd.prog.bytesOf 33 ≤ 140737488351232 ∧ ∀ b ∈ l, (Lit.int .i64 b.f0).wf = true ∧ (Lit.int .i64 b.f1).wf = true ∧ (Lit.int .i64 b.f2).wf = true) :=
  opens_slice Tryd.underlying23 (by kernel_rfl) opens33
end Go.Proofs.YthnifjggnjcenaaDoor.Kinds
