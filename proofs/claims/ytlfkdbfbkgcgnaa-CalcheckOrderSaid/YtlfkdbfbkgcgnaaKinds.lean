/-
  A rule, and a list of rules, as the row reads them. No condition.
-/
import Derived.Test.YtlfkdbfbkgcgnaaOpen
import Derived.Test.YtlfkdbfbkgcgnaaAllx0
namespace Go.Proofs.Ytlfkdbfbkgcgnaa.Kinds
open Go.RowKit Go.Proofs.YtlfkdbfbkgcgnaaO Go.Proofs.Ytlfkdbfbkgcgnaa.All Go.Proofs.YtlfkdbfbkgcgnaaW.PrintWords

theorem opens33 {H : Type} {enc : TypeId × Value → H} : Opens enc Try.prog 33 k33 (fun b => (Lit.int .i64 b.f0).wf = true ∧ (Lit.int .i64 b.f1).wf = true ∧ (Lit.int .i64 b.f2).wf = true) :=
  opens_struct Try.underlying33 (by kernel_rfl)
    (opensFs_cons rfl (opens_int Try.underlying3 (by kernel_rfl)) (opensFs_cons rfl (opens_int Try.underlying3 (by kernel_rfl)) (opensFs_last rfl (opens_int Try.underlying3 (by kernel_rfl)))))
    (fun x : S33 => (x.f0, x.f1, x.f2)) (fun a => ⟨a.1, a.2.1, a.2.2⟩) (fun _ => rfl)
theorem opens22 {H : Type} {enc : TypeId × Value → H} : Opens enc Try.prog 22 (Kd.slice 33 k33) (fun l => l.length ≤ maxLen ∧ l.length * Try.prog.bytesOf 33 ≤ 140737488351232 ∧ ∀ b ∈ l, (Lit.int .i64 b.f0).wf = true ∧ (Lit.int .i64 b.f1).wf = true ∧ (Lit.int .i64 b.f2).wf = true) :=
  opens_slice Try.underlying22 (by kernel_rfl) opens33
end Go.Proofs.Ytlfkdbfbkgcgnaa.Kinds
