/- Plain lemmas: marks in slices of slices. Conditions: none. -/
import Derived.Test.YteffpikahopfoaaGreatLem
set_option linter.unusedVariables false
namespace Go.Proofs.YteffpikahopfoaaGreat.Pl
open Vm
theorem ngc(p:rM)(r:List DC)(l:rM):V (p++r::l) p.length=r:=by simp only[V];rw[List.getD_eq_getElem?_getD,List.getElem?_append_right (Nat.le_refl _),Nat.sub_self];rfl
theorem pd{σ:Type}(g:σ→List DC→σ):∀(l p:rM) (s:σ),Wc (λi s=>g s (V (p++l) i)) l.length p.length s=l.foldl g s
 | [],p,s=>rfl
 | r::l,p,s=>by have:=pd g l (p++[r]) (g s r);rw[List.append_assoc,Qe] at this;simp only[di,Wc,List.foldl_cons];rw[ngc];exact this
end Go.Proofs.YteffpikahopfoaaGreat.Pl
