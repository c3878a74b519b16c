/- Conditions: as each says. -/
import Derived.Test.YteffpikahopfoaaGreatLem
set_option linter.unusedVariables false
namespace Go.Proofs.YteffpikahopfoaaGreat.Pl
open Vm
theorem nhj(p:u)(r:List DC)(l:u):q (p++r::l) p.length=r:=by simp only[q];rw[List.getD_eq_getElem?_getD,List.getElem?_append_right (Nat.le_refl _),Nat.sub_self];rfl
theorem pw{σ:Type}(g:σ→List DC→σ):∀(l p:u) (s:σ),kM (λi s=>g s (q (p++l) i)) l.length p.length s=l.foldl g s
 | [],p,s=>rfl
 | r::l,p,s=>by have:=pw g l (p++[r]) (g s r);rw[List.append_assoc,fK] at this;simp only[I_,kM,List.foldl_cons];rw[nhj];exact this
end Go.Proofs.YteffpikahopfoaaGreat.Pl
