import Derived.Test.YtppodgdhdddfkaaGreatDoorQMo
import Derived.Laws.IdiomStrings
import Derived.Laws.Unary
set_option linter.unusedVariables false
set_option linter.unusedSimpArgs false
namespace Go.Proofs.YtppodgdhdddfkaaGreatDoor.Cg
open Go Go.RowKit Go.Proofs.YtppodgdhdddfkaaGreatDoor.Sx
open Go.Proofs.YtppodgdhdddfkaaGreatDoor.Bi (mixed take_s Nw rList_t)
open Go.Proofs.YtppodgdhdddfkaaGreatDoor.Cf
open Go.Proofs.YtppodgdhdddfkaaGreatDoor.Sg
theorem wrap_u8 (z:Int):IntKind.u8.wrap z=z % 256:=by simp [IntKind.wrap,IntKind.bits,IntKind.signed]
section
variable {P:Program} {Z:ZP} {R:Value→World→Prop} {w:World} {A:List Nat→List Value→World→Prop} {B:List Nat→Nat→List Value→World→Prop} {ds:List Nat} {k:Value→T}
theorem Ebyte4:El Tryz.prog 48 5 1 1 (.int .u8 0):=⟨by kernel_rfl,by kernel_rfl,Tryz.sizeOf5,Tryz.zeroValue5,rfl⟩
theorem r_remU {ty x:Nat} (hk:wp P Z R ds (k (.int .u64 ((x % 10:Nat):Int))) w A B):wp P Z R ds (.pu (binOp .rem ty (.int .u64 (x:Int)) (.int .u64 10)) k) w A B:=by
 refine r_rem (by decide) ?_
 have e:((x:Nat):Int).tmod 10=((x % 10:Nat):Int):=by rw [Int.tmod_eq_emod_of_nonneg (by omega)];omega
 rw [e]
 exact hk
theorem r_quoU {ty x:Nat} (hx:x < 18446744073709551616) (hk:wp P Z R ds (k (.int .u64 ((x / 10:Nat):Int))) w A B):wp P Z R ds (.pu (binOp .quo ty (.int .u64 (x:Int)) (.int .u64 10)) k) w A B:=by
 have h1:IntKind.u64.wrap (((x:Nat):Int).tdiv 10)=((x / 10:Nat):Int):=by
  rw [Bt.wrap_u,Int.tdiv_eq_ediv_of_nonneg (by omega)];omega
 have e:(Op.intDiv .quo .u64 ((x:Nat):Int) 10:Sem Value)=pure (.int .u64 ((x / 10:Nat):Int)):=by
  unfold Op.intDiv
  rw [if_neg (by decide)]
  show (pure (.int .u64 (IntKind.u64.wrap (((x:Nat):Int).tdiv 10))):Sem Value)=_
  rw [h1]
 exact ⟨_,λ w'=>by rw [binOp_quo,e];rfl,hk⟩
theorem r_dig {x:Nat} (hk:∀ w',Fr [] w w'→wp Tryz.prog Z R ds (k (Tx [UInt8.ofNat (48+x % 10)])) w' A B):wp Tryz.prog Z R ds (.pu (binOp .rem 40 (.int .u64 (x:Int)) (.int .u64 10)) λ v12=>biT false .add (.int .u64 48) v12 λ v13=>cvT .u8 v13 λ v14=>.hv (Instr.buildSlice 48 1 [(0,v14)].toArray) λ v15=>.hv (convert 48 9 v15) k) w A B:=by
 refine r_remU ?_
 refine r_are (y:=((48+x % 10:Nat):Int)) (by rw [Bt.wrap_u];omega) ?_
 refine r_are (y:=((48+x % 10:Nat):Int)) (by rw [wrap_u8];omega) ?_
 refine r_bs1 Ebyte4 (cs:=[.int .u8 ((48+x % 10:Nat):Int)]) (λ b w1 hb B1 f1=>?_)
 have hd:=dig (x % 10) (by omega)
 refine ⟨_,w1,run_convert_bytes_back w1 48 9 5 ⟨b,0,none⟩ 1 [UInt8.ofNat (48+x % 10)] Tryz.underlying48 Tryz.underlying5 Tryz.underlying9 (λ j hj=>?_),hk w1 f1⟩
 obtain rfl:j=0:=by simpa using hj
 rw [addr_add]
 have h1:=B1.cell (o:=0) rfl
 show w1.cell? ⟨b,0+0,none⟩=some (.int .u8 (((UInt8.ofNat (48+x % 10)).toNat:Nat):Int))
 rw [hd]
 exact h1
end
section
variable {Z:ZP} {w:World}
theorem dec_len {u:Nat} (hu:u < 18446744073709551616):(Lib.decDigits u).length≤20:=by rw [Lib.decDigits_length];exact Lib.nDigits_le20 u hu
def nlF (ls:List Bs):Bs:=(ls.map (λ l=>l++[10])).flatten
theorem nlF_len (ls:List Bs) (h:∀ l∈ls,l.length≤2000) (hn:ls.length≤3000):(nlF ls).length≤6003000:=by
 have h1:(nlF ls).length≤2001 * (ls.map (λ l=>l++[10])).length:=flat_len (ls.map (λ l=>l++[10])) 2001 (λ l hl=>by obtain ⟨z,hz,rfl⟩:=List.mem_map.1 hl;have:=h z hz;simp;omega)
 rw [List.length_map] at h1
 have h2:=Nat.mul_le_mul_left 2001 hn
 omega
end
end Go.Proofs.YtppodgdhdddfkaaGreatDoor.Cg
set_option linter.unusedVariables false
set_option linter.unusedSimpArgs false
namespace Go.Proofs.YtppodgdhdddfkaaGreatDoor.Cg
open Go Go.RowKit Go.Proofs.YtppodgdhdddfkaaGreatDoor.Sx
open Go.Proofs.YtppodgdhdddfkaaGreatDoor.Bi (mixed take_s Nw rList_t)
open Go.Proofs.YtppodgdhdddfkaaGreatDoor.Cf
open Go.Proofs.YtppodgdhdddfkaaGreatDoor.Sg
section
variable {Z:ZP} {w:World}
theorem short {ls:List Bs} (h:∀ l∈ls,l.length≤2000) (hn:ls.length≤3000):(nlF ls).length≤6003000:=nlF_len ls h hn
end
end Go.Proofs.YtppodgdhdddfkaaGreatDoor.Cg
set_option linter.unusedVariables false
set_option linter.unusedSimpArgs false
namespace Go.Proofs.YtppodgdhdddfkaaGreatDoor.Cg
open Go Go.RowKit Go.Proofs Go.Proofs.YtppodgdhdddfkaaGreatDoor.Sx
open Go.Proofs.YtppodgdhdddfkaaGreatDoor.Bi (mixed take_s)
open Go.Proofs.YtppodgdhdddfkaaGreatDoor.Cf
section
variable {Z:ZP} {w:World}
end
end Go.Proofs.YtppodgdhdddfkaaGreatDoor.Cg
set_option linter.unusedVariables false
set_option linter.unusedSimpArgs false
namespace Go.Proofs.YtppodgdhdddfkaaGreatDoor.Cg
open Go Go.RowKit Go.Proofs.YtppodgdhdddfkaaGreatDoor.Sx
open Go.Proofs.YtppodgdhdddfkaaGreatDoor.Bi (mixed take_s)
open Go.Proofs.YtppodgdhdddfkaaGreatDoor.Cf
open Go.Proofs.YtppodgdhdddfkaaGreatDoor.Sg
section
variable {Z:ZP} {w:World}
end
end Go.Proofs.YtppodgdhdddfkaaGreatDoor.Cg
