/-
  The shapes of this chapter's arguments: messages, acts.
-/
import Derived.Test.YtpnkobdnifopiaaNest
namespace Go.Proofs.Ytpnkobdnifopiaa
set_option linter.unusedVariables false
set_option linter.unusedSimpArgs false
open Go.ChangeShapes Go.WideShapes Go.Deep Go.RowKit
section
variable {H : Type} {enc : TypeId × Value → H} {W : World}
theorem ai_int : AllInts enc Try.prog W 0 (fun _ => true) true 3 := allInts_int Try.underlying3 (by kernel_rfl)
theorem ai_rec : AllInts enc Try.prog W 0 (fun _ => true) true 29 := allInts_struct Try.underlying29 (fun i f h => by
  rcases i with _ | _ | i <;> simp at h <;> subst h <;> exact ai_int) (cover_of (n := 2) (by kernel_rfl) (by kernel_rfl))
theorem ai_msg : AllInts enc Try.prog W 0 (fun _ => true) true 31 := allInts_struct Try.underlying31 (fun i f h => by
  rcases i with _ | _ | _ | i <;> simp at h <;> subst h <;> (first | exact ai_int | exact ai_rec)) (cover_of (n := 4) (by kernel_rfl) (by kernel_rfl))
theorem ai_act : AllInts enc Try.prog W 0 (fun _ => true) true 33 := allInts_struct Try.underlying33 (fun i f h => by
  rcases i with _ | _ | i <;> simp at h <;> subst h <;> (first | exact ai_int | exact ai_msg)) (cover_of (n := 5) (by kernel_rfl) (by kernel_rfl))
end
end Go.Proofs.Ytpnkobdnifopiaa
