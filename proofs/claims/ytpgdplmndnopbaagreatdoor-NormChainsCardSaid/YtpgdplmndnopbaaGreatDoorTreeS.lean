/- One more name ahead of names: what append makes of them. -/
import Derived.Deep.AppendSrc
import Derived.Deep.AppendLies
import Derived.Test.YtpgdplmndnopbaaGreatDoorMgB
import Derived.Test.YtpgdplmndnopbaaGreatDoorMgG
import Derived.Test.YtpgdplmndnopbaaGreatDoorMgC
namespace Go.Proofs.YtpgdplmndnopbaaGreatDoor
open Go.RowKit
theorem wpList_append_ex {P : Program} {w : World} {ops : Array Oper} {rest : List Oper} {o : Oper} {a : Act} {Q : Exit → Act → World → Prop} (hgd : o.guard = none) (s x : Operand) (t : TypeId)
 (ho : o.op = .call { callee := .builtin .append, args := #[s, x], argTypes := #[t, t] }) (v xv : Value) (hs : a.eval s = v) (hx : a.eval x = xv) (R : Value → World → Prop)
 (hrun : ∃ v' w', (Builtin.append_ #[t, t] o.type #[v, xv]).run P w = .ok v' w' ∧ R v' w')
 (h : ∀ v' w', R v' w' → wpList P ops Q rest (a.put o.dst v') w') : wpList P ops Q (o :: rest) a w := by
 refine wpList_plain hgd fun K hK => ?_
 obtain ⟨v', w', hr, h2⟩ := hrun
 unfold Oper.wp execOp
 simp only [ho, resolve, invoke, builtin, Sem.run_bind, Sem.run_pure, Result.andThen_ok, List.map_toArray, List.map_cons, List.map_nil, hs, hx, hr]
 exact hK _ _ (h v' w' h2)
end Go.Proofs.YtpgdplmndnopbaaGreatDoor