import Derived.Test.YtppodgdhdddfkaaGreatDoorQMl
import Derived.Test.YtppodgdhdddfkaaGreatDoorQMk
set_option linter.unusedVariables false
set_option linter.unusedSimpArgs false
namespace Go.Proofs.YtppodgdhdddfkaaGreatDoor.Cg
open Go Go.RowKit Go.Proofs.YtppodgdhdddfkaaGreatDoor.Sx
open Go.Proofs.YtppodgdhdddfkaaGreatDoor.Bi (mixed take_s Has_t rHas_t)
open Go.Proofs.YtppodgdhdddfkaaGreatDoor.Cf
section
variable {Z:ZP} {w:World}
end
end Go.Proofs.YtppodgdhdddfkaaGreatDoor.Cg
set_option linter.unusedVariables false
set_option linter.unusedSimpArgs false
namespace Go.Proofs.YtppodgdhdddfkaaGreatDoor.Cg
open Go Go.RowKit Go.Proofs.YtppodgdhdddfkaaGreatDoor.Sx
open Go.Proofs.YtppodgdhdddfkaaGreatDoor.Bi (mixed take_s Has_t rHas_t)
open Go.Proofs.YtppodgdhdddfkaaGreatDoor.Cf
section
variable {Z:ZP} {w:World}
end
end Go.Proofs.YtppodgdhdddfkaaGreatDoor.Cg
set_option linter.unusedVariables false
set_option linter.unusedSimpArgs false
namespace Go.Proofs.YtppodgdhdddfkaaGreatDoor.Cg
open Go Go.RowKit Go.Proofs.YtppodgdhdddfkaaGreatDoor.Sx
open Go.Proofs.YtppodgdhdddfkaaGreatDoor.Cf
end Go.Proofs.YtppodgdhdddfkaaGreatDoor.Cg
set_option linter.unusedVariables false
set_option linter.unusedSimpArgs false
namespace Go.Proofs.YtppodgdhdddfkaaGreatDoor.Cg
open Go Go.RowKit Go.Proofs.YtppodgdhdddfkaaGreatDoor.Sx
open Go.Proofs.YtppodgdhdddfkaaGreatDoor.Bi (mixed take_s Has_t rHas_t)
open Go.Proofs.YtppodgdhdddfkaaGreatDoor.Cf
section
variable {Z:ZP} {w:World}
end
end Go.Proofs.YtppodgdhdddfkaaGreatDoor.Cg
set_option linter.unusedVariables false
set_option linter.unusedSimpArgs false
namespace Go.Proofs.YtppodgdhdddfkaaGreatDoor.Cg
open Go Go.RowKit Go.Proofs.YtppodgdhdddfkaaGreatDoor.Sx
open Go.Proofs.YtppodgdhdddfkaaGreatDoor.Bi (mixed take_s Has_t rHas_t)
open Go.Proofs.YtppodgdhdddfkaaGreatDoor.Cf
theorem rw_blk {α:Type} {enc:α→List Value} {n:Nat} {hl:∀ x,(enc x).length=n} {h1:∀ x,∀ v∈enc x,v.oneCell'=true} {w:World} {T b:Nat} {l:List α} (h:Blk w b T (flat enc l)):Rw (rE enc n hl h1) w (some ⟨b,0,none⟩) l:=by
 intro j x hj
 refine ⟨_,enc x,rfl,⟨hl x,λ i v hv=>?_⟩,rfl⟩
 rw [addA_addA]
 show w.cell? ⟨b,0+(j * n+i),none⟩=_
 rw [Nat.zero_add]
 refine h.cell ?_
 have hi:=(List.getElem?_eq_some_iff.1 hv).1
 rw [hl x] at hi
 rw [flat_get hl hj hi]
 exact hv
section
variable {Z:ZP} {w:World}
end
end Go.Proofs.YtppodgdhdddfkaaGreatDoor.Cg
set_option linter.unusedVariables false
set_option linter.unusedSimpArgs false
namespace Go.Proofs.YtppodgdhdddfkaaGreatDoor.Cg
open Go Go.RowKit Go.Proofs.YtppodgdhdddfkaaGreatDoor.Sx
open Go.Proofs.YtppodgdhdddfkaaGreatDoor.Cf
open Go.Proofs.YtppodgdhdddfkaaGreatDoor.Sg
theorem dg (n:Nat) (h:n < 10):Lib.decDigits n=[UInt8.ofNat (48+n)]:=by rw [Lib.decDigits,dif_pos h]
theorem it (n:Nat) (h:n < 10):Lib.itoa (n:Int)=[UInt8.ofNat (48+n)]:=by
 unfold Lib.itoa
 rw [if_neg (by omega)]
 exact dg _ (by omega)
end Go.Proofs.YtppodgdhdddfkaaGreatDoor.Cg
set_option linter.unusedVariables false
set_option linter.unusedSimpArgs false
namespace Go.Proofs.YtppodgdhdddfkaaGreatDoor.Cg
open Go Go.RowKit Go.Proofs.YtppodgdhdddfkaaGreatDoor.Sx
open Go.Proofs.YtppodgdhdddfkaaGreatDoor.Bi (mixed take_s Has_t rHas_t)
open Go.Proofs.YtppodgdhdddfkaaGreatDoor.Cf
theorem ext_ne {α:Type} {a b:List α} {i:Nat} {x y:α} (h1:a[i]? = some x) (h2:b[i]? = some y) (h:¬ x=y):¬ a=b:=λ e=>by
 subst e
 rw [h1] at h2
 injection h2 with h2
 exact h h2
theorem ext_eq {α:Type} {a b:List α} (hl:a.length=b.length) (h:∀ (j:Nat) x y,j < a.length→a[j]? = some x→b[j]? = some y→x=y):a=b:=by
 apply List.ext_getElem hl
 intro i h1 h2
 exact h i _ _ h1 (List.getElem?_eq_getElem h1) (List.getElem?_eq_getElem h2)
section
variable {Z:ZP} {w:World}
theorem rSameU_t {X Y:Option Addr} {cx cy:Nat} {a b:List Int} (ha:Rw (rI .u64) w X a) (hb:Rw (rI .u64) w Y b) (la:a.length≤big):Cz Tryz.prog 42 [.slice X a.length cx,.slice Y b.length cy] w (λ r w'=>r=.bool (decide (a=b))∧Fr [] w w') Z:=by
 refine go mixed Tryz.func42 Tryz.call42 rfl (Tr.e42 _ _) ?_
 simp only [big] at la
 refine r_if (λ h=>r_ret ⟨by rw [decide_eq_false (λ e=>h (by rw [e]))],Fr.refl _ _⟩) (λ h=>?_)
 have hl:a.length=b.length:=by omega
 refine r_loop (λ (i:Nat)=>[I (i:Int),B false]) (λ i w'=>i≤a.length∧(∀ (j:Nat) x y,j < i→a[j]? = some x→b[j]? = some y→x=y)∧Fr [] w w') (λ i=>a.length-i) 0 ⟨Nat.zero_le _,λ _ _ _ h=>by omega,Fr.refl _ _⟩ rfl ?_
 rintro i w1 ⟨hi,hno,F⟩
 refine r_if (λ h=>?_) (λ h=>?_)
 ·refine r_dr (λ w2 f2=>?_)
  have F:=F.trans f2
  obtain ⟨x,hx⟩:=gt (xs:=a) (j:=i) (by omega)
  obtain ⟨y,hy⟩:=gt (xs:=b) (j:=i) (by omega)
  obtain ⟨ad,es,rfl,rd,e3⟩:=(ha.up F) i x hx
  obtain rfl:=e3
  obtain ⟨ad2,es2,rfl,rd2,e4⟩:=(hb.up F) i y hy
  obtain rfl:=e4
  refine r_ob ⟨by omega,by omega⟩ ?_
  refine r_ld (cell1 rd) ?_
  refine r_ob ⟨by omega,by omega⟩ ?_
  refine r_ld (cell1 rd2) ?_
  refine r_if (λ e=>r_ret ⟨by rw [decide_eq_false (ext_ne hx hy e)],F⟩) (λ e=>?_)
  refine r_ar (by omega) ?_
  refine r_ag (i+1) ⟨by omega,λ j x' y' hj hx' hy'=>?_,F⟩ (by omega) rfl
  rcases Nat.lt_or_ge j i with h' | h'
  ·exact hno j x' y' h' hx' hy'
  ·obtain rfl:j=i:=by omega
   rw [hx] at hx';rw [hy] at hy';cases hx';cases hy'
   exact Classical.not_not.1 e
 ·have:i=a.length:=by omega
  subst this
  exact r_brk (r_ret ⟨by rw [decide_eq_true (ext_eq hl hno)],F⟩)
end
end Go.Proofs.YtppodgdhdddfkaaGreatDoor.Cg
