/- It is proved here that FieldReckons answers true, of every two bytes and every int: as whole numbers alone. No condition. -/
import Derived.Test.YtaadeokgcacibaaF3Fn
import Derived.Test.YtaadeokgcacibaaF3Ref
namespace Go.Proofs.Ytaadeokgcacibaa.Pure
set_option linter.unusedVariables false
set_option linter.unusedSimpArgs false
open Go.RowKit Go.Proofs.Ytaadeokgcacibaa.PF3 Go.Proofs.YtaadeokgcacibaaW.PrintWords Go.Proofs.YtaadeokgcacibaaW.PrintLast Go.Proofs.Ytaadeokgcacibaa.Gf Go.Proofs.Ytaadeokgcacibaa.Gfi

theorem FieldReckons : ciboriumlaw03_FieldReckons.Pure := by
  intro x y n hx hy hn
  obtain ⟨a, rfl⟩ := B_of_wf hx
  obtain ⟨b, rfl⟩ := B_of_wf hy
  have hn := i64_of_wf hn
  refine ⟨400, ?_⟩
  unfold ciboriumlaw03_FieldReckons.f
  rw [F3Fn.div_f (by omega), Option.bind_some, F3Ref.div_f (by omega), Option.bind_some, F3Fn.add_f, Option.bind_some, bits_xor, if_pos rfl, F3Fn.mul_f (by omega), Option.bind_some, F3Ref.mul_f (by omega), Option.bind_some, if_pos rfl, F3Fn.inv_f, Option.bind_some, F3Ref.inv_f (by omega), Option.bind_some]
  rw [show (ofB (inv a) != ofB (inv a)) = false by simp]
  simp only [ciboriumlaw03_FieldReckons.j0]
  rw [if_neg (by simp), if_pos trivial, if_pos trivial, F3Fn.pow_f a hn.1 hn.2, Option.bind_some, F3Ref.pow_f (by omega), Option.bind_some, if_pos rfl, F3Fn.works_f (by omega)]
  rfl
end Go.Proofs.Ytaadeokgcacibaa.Pure
