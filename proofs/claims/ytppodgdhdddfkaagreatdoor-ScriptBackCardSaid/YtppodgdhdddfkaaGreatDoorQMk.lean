import Derived.Test.YtppodgdhdddfkaaGreatDoorQMd
import Derived.Laws.Strings
import Derived.Shelf.Strings.Builder1
import Derived.Shelf.Small.Strs
import Derived.Shelf.Small.Wraps
import Derived.Shelf.Strconv.Itoa1
import Derived.Shelf.LaysM
import Derived.Shelf.Strconv.Itoa2
import Derived.Shelf.Strconv.Itoa3
import Derived.Shelf.LaysC
import Derived.Shelf.Strconv.ToError
import Derived.Shelf.Strconv.ToErrorRange
import Derived.Shelf.Strconv.AtoiAll
import Derived.Shelf.Strconv.ParseUint10At
import Derived.Shelf.Strings.Search3
import Derived.Shelf.Strings.Cut
import Derived.Shelf.Strings.Count
import Derived.Shelf.Strings.Prefix
import Derived.Shelf.Strings.Split
import Derived.Test.YtppodgdhdddfkaaGreatDoorProg
import Derived.Test.YtppodgdhdddfkaaGreatDoorQMe
import Derived.Test.YtppodgdhdddfkaaGreatDoorQMc
import Derived.Lib.AppendStr
import Derived.Test.YtppodgdhdddfkaaGreatDoorQMg
import Derived.Lib.ItoaNum
import Derived.Lib.ItoaLen
set_option linter.unusedVariables false
set_option linter.unusedSimpArgs false
namespace Go.Proofs.YtppodgdhdddfkaaGreatDoor.Sx
open Go Go.RowKit
abbrev Bs:=List UInt8
abbrev Tx (l:Bs):Value:=.string ⟨l.toArray⟩
theorem tx_of (s:ByteArray):Value.string s=Tx s.data.toList:=by cases s;simp [Tx]
theorem tx_size (l:Bs):(ByteArray.mk l.toArray).size=l.length:=by simp [ByteArray.size]
theorem tx_app (a b:Bs):(ByteArray.mk a.toArray++ByteArray.mk b.toArray)=ByteArray.mk (a++b).toArray:=by
 apply ByteArray.ext
 simp
section
variable {P:Program} {Z:ZP} {R:Value→World→Prop} {w:World} {A:List Nat→List Value→World→Prop} {B:List Nat→Nat→List Value→World→Prop} {ds:List Nat} {k:Value→T} {t:T}
theorem r_pus {s:Sem Value} {v:Value} (h:∀ w',s.run P w'=.ok v w') (hk:wp P Z R ds (k v) w A B):wp P Z R ds (.pu s k) w A B:=⟨v,h,hk⟩
theorem r_cat {ty:Nat} {a b:Bs} (h:a.length+b.length≤9223372036854775807) (hk:wp P Z R ds (k (Tx (a++b))) w A B):wp P Z R ds (.pu (binOp .add ty (Tx a) (Tx b)) k) w A B:=by
 refine r_pus (λ w'=>?_) hk
 rw [binOp_string_add]
 have e:¬ (((ByteArray.mk a.toArray).size+(ByteArray.mk b.toArray).size:Nat):Int) > IntKind.i64.max:=by
  rw [tx_size,tx_size]
  have:IntKind.i64.max=9223372036854775807:=by decide
  rw [this]
  omega
 unfold Op.stringOp
 simp only [if_neg e,tx_app]
 rfl
theorem r_teq {ty:Nat} {x y:Operand} {a b:Bs} (hk:wp P Z R ds (k (.bool (decide (a=b)))) w A B):wp P Z R ds (.pu (do eqGuard .eql ty x y (Tx a) (Tx b);binOp .eql ty (Tx a) (Tx b)) k) w A B:=by
 refine r_pus (λ w'=>?_) hk
 rw [binOp_string_eql]
 have e:(eqGuard .eql ty x y (Tx a) (Tx b)).run P w'=.ok () w':=by unfold eqGuard;rfl
 simp only [Sem.run_bind,e,Result.andThen_ok,ByteArray.toList_mk,Sem.run_pure]
 congr 2
 by_cases h:a=b<;>simp [h]
theorem r_tlen {ty ty2:Nat} {a:Bs} (hu:P.underlying ty=some .string) (hk:wp P Z R ds (k (I a.length)) w A B):wp P Z R ds (.pu (Builtin.len_ #[ty] ty2 #[Tx a]) k) w A B:=
 r_pus (λ w'=>by rw [run_len_string w' ty ty2 _ hu,tx_size];rfl) hk
theorem r_tix {ty:Nat} {kd:IntKind} {a:Bs} {i:Int} {b:UInt8} (hu:P.underlying ty=some .string) (n:Nat) (hi:i=n) (hb:a[n]? = some b) (hk:wp P Z R ds (k (.int .u8 (b.toNat:Nat))) w A B):wp P Z R ds (.pu (Instr.index ty (Tx a) (.int kd i)) k) w A B:=by
 obtain ⟨hn,hb⟩:=List.getElem?_eq_some_iff.1 hb
 subst hi
 refine r_pus (λ w'=>?_) hk
 rw [run_index_string w' ty _ kd _ hu,dif_pos ⟨by omega,by rw [tx_size];omega⟩]
 congr 3
 subst hb
 simp [ByteArray.getElem_eq_getElem_data]
theorem tx_extract (a:Bs) (l h:Nat):(ByteArray.mk a.toArray).extract l h=ByteArray.mk ((a.take h).drop l).toArray:=by
 apply ByteArray.ext
 rw [ByteArray.data_extract,List.extract_toArray,List.extract_eq_take_drop,← List.drop_take]
theorem run_tsl {ty l h:Nat} {a:Bs} {lo hi:Option Value} (hu:P.underlying ty=some .string) (hb:∀ w',(Instr.sliceBounds false a.length a.length lo hi none).run P w'=.ok (l,h,a.length) w') (w':World):(Instr.sliceAt ty (Tx a) lo hi none).run P w'=.ok (Tx ((a.take h).drop l)) w':=by
 rw [run_sliceAt_string _ _ _ _ _ _ hu]
 have hb':=hb w'
 simp only [Instr.slice,Sem.run_bind,run_underlying hu,Result.andThen_ok,tx_size,hb',Option.isSome_none,Bool.false_eq_true,if_false,tx_extract,Sem.run_pure]
theorem r_tslh {ty:Nat} {a:Bs} {kd:IntKind} {j:Int} (hu:P.underlying ty=some .string) (h:Nat) (hj:j=h) (hh:h≤a.length) (hk:wp P Z R ds (k (Tx (a.take h))) w A B):wp P Z R ds (.pu (Instr.sliceAt ty (Tx a) none (some (.int kd j)) none) k) w A B:=by
 subst hj
 refine r_pus (v:=Tx ((a.take h).drop 0)) (run_tsl hu λ w'=>?_) hk
 have:0≤(h:Int)∧(h:Int)≤a.length:=by omega
 simp [Instr.sliceBounds,Instr.sliceBound,asIntOf,this]
 omega
theorem r_tsll {ty:Nat} {a:Bs} {kd:IntKind} {j:Int} (hu:P.underlying ty=some .string) (l:Nat) (hj:j=l) (hl:l≤a.length) (hk:wp P Z R ds (k (Tx (a.drop l))) w A B):wp P Z R ds (.pu (Instr.sliceAt ty (Tx a) (some (.int kd j)) none none) k) w A B:=by
 subst hj
 refine r_pus (v:=Tx ((a.take a.length).drop l)) (run_tsl hu λ w'=>?_) (by rw [List.take_length];exact hk)
 have:0≤(l:Int)∧(l:Int)≤a.length:=by omega
 simp [Instr.sliceBounds,Instr.sliceBound,asIntOf,this]
 omega
theorem r_tsl2 {ty:Nat} {a:Bs} {kd kd2:IntKind} {j i:Int} (hu:P.underlying ty=some .string) (l h:Nat) (hj:j=l) (hi:i=h) (hl:l≤h) (hh:h≤a.length) (hk:wp P Z R ds (k (Tx ((a.take h).drop l))) w A B):wp P Z R ds (.pu (Instr.sliceAt ty (Tx a) (some (.int kd j)) (some (.int kd2 i)) none) k) w A B:=by
 subst hj hi
 refine r_pus (v:=Tx ((a.take h).drop l)) (run_tsl hu λ w'=>?_) hk
 have:0≤(l:Int)∧(l:Int)≤h:=by omega
 have:0≤(h:Int)∧(h:Int)≤a.length:=by omega
 simp [Instr.sliceBounds,Instr.sliceBound,asIntOf, *]
end
end Go.Proofs.YtppodgdhdddfkaaGreatDoor.Sx
set_option linter.unusedVariables false
namespace Go.Proofs.YtppodgdhdddfkaaGreatDoor.Sh
open Go.Shelf Go.Proofs
def lays170_ren:Go.Shelf.Ren:=⟨λ | 170=>62 | n=>n,λ | 70=>109 | 3=>3 | 0=>0 | 72=>111 | 37=>48 | 5=>5 | n=>n,λ | n=>n⟩
theorem lays170:Go.Proofs.Lays.n170 Tryz.prog lays170_ren:={
 mixed:=by kernel_rfl
 f170:=Tryz.func62.trans (congrArg some (by kernel_rfl))
 t0:=Tryz.underlying0
 a0:=Tryz.isAgg0
 z0:=Tryz.sizeOf0
 v0:=Tryz.zeroValue0
 t3:=Tryz.underlying3
 a3:=Tryz.isAgg3
 z3:=Tryz.sizeOf3
 v3:=Tryz.zeroValue3
 t37:=Tryz.underlying48
 a37:=Tryz.isAgg48
 z37:=Tryz.sizeOf48
 v37:=Tryz.zeroValue48
 t70:=Tryz.underlying109
 a70:=Tryz.isAgg109
 z70:=Tryz.sizeOf109
 v70:=Tryz.zeroValue109
 t72:=Tryz.underlying111
 a72:=Tryz.isAgg111
 z72:=Tryz.sizeOf111
 v72:=Tryz.zeroValue111 }
open Go.RowKit in
theorem Builder_Len (B b:Nat) (bs:List Value) (w:World) (h:Lib.IsBuilder 111 5 B b bs w) :
  Calls Tryz.prog 62 #[.pointer (some ⟨b,0,none⟩)] w λ e w'=>e=.returned (.int .i64 bs.length)∧w'=w:=Any.Builder_Len lays170 B b bs w h
def lays169_ren:Go.Shelf.Ren:=⟨λ | 169=>63 | n=>n,λ | 70=>109 | 9=>9 | 0=>0 | 72=>111 | 37=>48 | 127=>161 | 3=>3 | 5=>5 | n=>n,λ | n=>n⟩
theorem Builder_Extra_169:Builder.Extra Tryz.prog lays169_ren:={
 sizeBuilder:=by kernel_rfl
 liesBuilder:=by kernel_rfl
 t5:=Tryz.underlying5
 a5:=Tryz.isAgg5
 z5:=Tryz.sizeOf5
 v5:=Tryz.zeroValue5
 infoByte:=by kernel_rfl
 cellsByte:=by kernel_rfl
 sizeByte:=by kernel_rfl
 neB5:=by decide }
open Go.RowKit in
def lays137_ren:Go.Shelf.Ren:=⟨λ | 137=>73 | 217=>119 | 266=>158 | n=>n,λ | 9=>9 | 5=>5 | 3=>3 | n=>n,λ | n=>n⟩
theorem lays137:Go.Proofs.Lays.n137 Tryz.prog lays137_ren:={
 mixed:=by kernel_rfl
 f137:=Tryz.func73.trans (congrArg some (by kernel_rfl))
 f217:=Tryz.func119.trans (congrArg some (by kernel_rfl))
 f266:=Tryz.func158.trans (congrArg some (by kernel_rfl))
 t3:=Tryz.underlying3
 a3:=Tryz.isAgg3
 z3:=Tryz.sizeOf3
 v3:=Tryz.zeroValue3
 t5:=Tryz.underlying5
 a5:=Tryz.isAgg5
 z5:=Tryz.sizeOf5
 v5:=Tryz.zeroValue5
 t9:=Tryz.underlying9
 a9:=Tryz.isAgg9
 z9:=Tryz.sizeOf9
 v9:=Tryz.zeroValue9 }
open Go.RowKit in
theorem strings_IndexByte (s:ByteArray) (c:Int) (w:World) :
  Calls Tryz.prog 73 #[.string s,.int .u8 c] w λ e w'=>e=.returned (.int .i64 (Lib.indexByte s.data.toList c.toNat.toUInt8))∧w'=w:=Any.strings_IndexByte lays137 s c w
def lays103_ren:Go.Shelf.Ren:=⟨λ | 103=>122 | 210=>162 | 206=>115 | n=>n,λ | 9=>9 | 4=>4 | 24=>126 | 3=>3 | n=>n,λ | n=>n⟩
theorem lays103:Go.Proofs.Lays.n103 Tryz.prog lays103_ren:={
 mixed:=by kernel_rfl
 f103:=Tryz.func122.trans (congrArg some (by kernel_rfl))
 f206:=Tryz.func115.trans (congrArg some (by kernel_rfl))
 f210:=Tryz.func162.trans (congrArg some (by kernel_rfl))
 t3:=Tryz.underlying3
 a3:=Tryz.isAgg3
 z3:=Tryz.sizeOf3
 v3:=Tryz.zeroValue3
 t4:=Tryz.underlying4
 a4:=Tryz.isAgg4
 z4:=Tryz.sizeOf4
 v4:=Tryz.zeroValue4
 t9:=Tryz.underlying9
 a9:=Tryz.isAgg9
 z9:=Tryz.sizeOf9
 v9:=Tryz.zeroValue9
 t24:=Tryz.underlying126
 a24:=Tryz.isAgg126
 z24:=Tryz.sizeOf126
 v24:=Tryz.zeroValue126 }
open Go.RowKit in
theorem strings_CutPrefix (s p:ByteArray) (w:World) :
  Calls Tryz.prog 122 #[.string s,.string p] w λ e w'=>e=.returned (.tuple #[.string ⟨(Lib.trimPrefix s.data.toList p.data.toList).toArray⟩,.bool (Lib.hasPrefix s.data.toList p.data.toList)])∧w'=w:=Any.strings_CutPrefix lays103 s p w
def lays104_ren:Go.Shelf.Ren:=⟨λ | 104=>70 | 211=>116 | 207=>153 | n=>n,λ | 9=>9 | 4=>4 | 24=>126 | 3=>3 | n=>n,λ | n=>n⟩
theorem lays104:Go.Proofs.Lays.n104 Tryz.prog lays104_ren:={
 mixed:=by kernel_rfl
 f104:=Tryz.func70.trans (congrArg some (by kernel_rfl))
 f207:=Tryz.func153.trans (congrArg some (by kernel_rfl))
 f211:=Tryz.func116.trans (congrArg some (by kernel_rfl))
 t3:=Tryz.underlying3
 a3:=Tryz.isAgg3
 z3:=Tryz.sizeOf3
 v3:=Tryz.zeroValue3
 t4:=Tryz.underlying4
 a4:=Tryz.isAgg4
 z4:=Tryz.sizeOf4
 v4:=Tryz.zeroValue4
 t9:=Tryz.underlying9
 a9:=Tryz.isAgg9
 z9:=Tryz.sizeOf9
 v9:=Tryz.zeroValue9
 t24:=Tryz.underlying126
 a24:=Tryz.isAgg126
 z24:=Tryz.sizeOf126
 v24:=Tryz.zeroValue126 }
open Go.RowKit in
theorem strings_CutSuffix (s p:ByteArray) (w:World) (hs:s.size≤9223372036854775807) :
  Calls Tryz.prog 70 #[.string s,.string p] w λ e w'=>e=.returned (.tuple #[.string ⟨(Lib.trimSuffix s.data.toList p.data.toList).toArray⟩,.bool (Lib.hasSuffix s.data.toList p.data.toList)])∧w'=w:=Any.strings_CutSuffix lays104 s p w hs
def lays283_ren:Go.Shelf.Ren:=⟨λ | 283=>132 | n=>n,λ | 3=>3 | 9=>9 | 4=>4 | n=>n,λ | n=>n⟩
theorem lays283:Go.Proofs.Lays.n283 Tryz.prog lays283_ren:={
 mixed:=by kernel_rfl
 f283:=Tryz.func132.trans (congrArg some (by kernel_rfl))
 t3:=Tryz.underlying3
 a3:=Tryz.isAgg3
 z3:=Tryz.sizeOf3
 v3:=Tryz.zeroValue3
 t4:=Tryz.underlying4
 a4:=Tryz.isAgg4
 z4:=Tryz.sizeOf4
 v4:=Tryz.zeroValue4
 t9:=Tryz.underlying9
 a9:=Tryz.isAgg9
 z9:=Tryz.sizeOf9
 v9:=Tryz.zeroValue9 }
open Go.Lib in
theorem internal_strconv_small (i:Nat) (h:i < 100) (w:World) :
  Calls Tryz.prog 132 #[.int .i64 i] w λ e w'=>e=.returned (.string ⟨(Lib.decDigits i).toArray⟩)∧w'=w:=Any.internal_strconv_small lays283 i h w
def laysM284_ren:Go.Shelf.Ren:=⟨λ | 284=>133 | 129=>168 | 317=>167 | 318=>169 | n=>n,λ | 53=>40 | 3=>3 | 212=>210 | 0=>0 | 4=>4 | 46=>100 | 5=>5 | 9=>9 | n=>n,λ | 17=>1 | n=>n⟩
theorem laysM284:Go.Proofs.LaysM.n284 Tryz.prog laysM284_ren:={
 mixed:=by kernel_rfl
 f129:=Tryz.func168.trans (congrArg some (by kernel_rfl))
 f284:=Tryz.func133.trans (congrArg some (by kernel_rfl))
 f317:=Tryz.func167.trans (congrArg some (by kernel_rfl))
 f318:=Tryz.func169.trans (congrArg some (by kernel_rfl))
 t0:=Tryz.underlying0
 a0:=Tryz.isAgg0
 z0:=Tryz.sizeOf0
 v0:=Tryz.zeroValue0
 t3:=Tryz.underlying3
 a3:=Tryz.isAgg3
 z3:=Tryz.sizeOf3
 v3:=Tryz.zeroValue3
 t4:=Tryz.underlying4
 a4:=Tryz.isAgg4
 z4:=Tryz.sizeOf4
 v4:=Tryz.zeroValue4
 t5:=Tryz.underlying5
 a5:=Tryz.isAgg5
 z5:=Tryz.sizeOf5
 v5:=Tryz.zeroValue5
 t9:=Tryz.underlying9
 a9:=Tryz.isAgg9
 z9:=Tryz.sizeOf9
 v9:=Tryz.zeroValue9
 t46:=Tryz.underlying100
 a46:=Tryz.isAgg100
 z46:=Tryz.sizeOf100
 v46:=Tryz.zeroValue100
 t53:=Tryz.underlying40
 a53:=Tryz.isAgg40
 z53:=Tryz.sizeOf40
 v53:=Tryz.zeroValue40
 t212:=Tryz.underlying210
 a212:=Tryz.isAgg210
 z212:=Tryz.sizeOf210
 v212:=Tryz.zeroValue210
 g17:=by kernel_rfl
 i0:=by kernel_rfl
 i3:=by kernel_rfl
 i4:=by kernel_rfl
 i5:=by kernel_rfl
 i9:=by kernel_rfl
 i46:=by kernel_rfl
 i53:=by kernel_rfl
 i212:=by kernel_rfl
 m17:=by kernel_rfl }
open Go.Lib in
theorem internal_strconv_numDigits (u:Nat) (h1:1≤u) (h2:u < 18446744073709551616) (w:World) (htab:Lib.TabIs Tryz.prog w "internal/strconv.uint64pow10" .u64 Lib.pow10Tab) :
  Calls Tryz.prog 133 #[.int .u64 u] w λ e w'=>e=.returned (.int .i64 (Lib.nDigits u))∧w'=w:=Any.internal_strconv_numDigits laysM284 u h1 h2 w htab
def lays285_ren:Go.Shelf.Ren:=⟨λ | 285=>134 | n=>n,λ | 37=>48 | 53=>40 | 3=>3 | 4=>4 | 51=>39 | 9=>9 | 5=>5 | 0=>0 | n=>n,λ | n=>n⟩
theorem lays285:Go.Proofs.Lays.n285 Tryz.prog lays285_ren:={
 mixed:=by kernel_rfl
 f285:=Tryz.func134.trans (congrArg some (by kernel_rfl))
 t0:=Tryz.underlying0
 a0:=Tryz.isAgg0
 z0:=Tryz.sizeOf0
 v0:=Tryz.zeroValue0
 t3:=Tryz.underlying3
 a3:=Tryz.isAgg3
 z3:=Tryz.sizeOf3
 v3:=Tryz.zeroValue3
 t4:=Tryz.underlying4
 a4:=Tryz.isAgg4
 z4:=Tryz.sizeOf4
 v4:=Tryz.zeroValue4
 t5:=Tryz.underlying5
 a5:=Tryz.isAgg5
 z5:=Tryz.sizeOf5
 v5:=Tryz.zeroValue5
 t9:=Tryz.underlying9
 a9:=Tryz.isAgg9
 z9:=Tryz.sizeOf9
 v9:=Tryz.zeroValue9
 t37:=Tryz.underlying48
 a37:=Tryz.isAgg48
 z37:=Tryz.sizeOf48
 v37:=Tryz.zeroValue48
 t51:=Tryz.underlying39
 a51:=Tryz.isAgg39
 z51:=Tryz.sizeOf39
 v51:=Tryz.zeroValue39
 t53:=Tryz.underlying40
 a53:=Tryz.isAgg40
 z53:=Tryz.sizeOf40
 v53:=Tryz.zeroValue40 }
open Go.RowKit Go.Sort Go.Lib in
theorem internal_strconv_formatBase10 (blk off cap:Nat) (u:Nat) (d:Array UInt8) (w:World) (hH:Holds (λ (b:UInt8)=>Value.int .u8 (b.toNat:Int)) w blk off d) (hu:u < 10 ^ d.size) (hu64:u < 18446744073709551616) (hsz:d.size < 4611686018427387904) :
  Calls Tryz.prog 134 #[.slice (some ⟨blk,off,none⟩) d.size cap,.int .u64 u] w λ e w' =>
   e=.returned (.tuple #[])∧∃ (n v':Nat) (dk:Array UInt8),w'=(putRow (λ (b:UInt8)=>Value.int .u8 (b.toNat:Int)) w blk off dk).drewN n∧FmtInv d.size u 0 v' dk:=Any.internal_strconv_formatBase10 lays285 blk off cap u d w hH hu hu64 hsz
def laysM171_ren:Go.Shelf.Ren:=⟨λ | 171=>101 | 243=>148 | 246=>179 | 283=>132 | 284=>133 | 285=>134 | 286=>135 | 129=>168 | 317=>167 | 318=>169 | 319=>170 | 320=>171 | 337=>193 | 338=>194 | n=>n,λ | 3=>3 | 9=>9 | 2=>2 | 4=>4 | 171=>178 | 0=>0 | 53=>40 | 37=>48 | 5=>5 | 173=>181 | 212=>210 | 51=>39 | 20=>20 | 213=>211 | 46=>100 | 232=>236 | 233=>237 | n=>n,λ | 17=>1 | 18=>7 | 19=>8 | n=>n⟩
theorem laysM171:Go.Proofs.LaysM.n171 Tryz.prog laysM171_ren:={
 mixed:=by kernel_rfl
 f129:=Tryz.func168.trans (congrArg some (by kernel_rfl))
 f171:=Tryz.func101.trans (congrArg some (by kernel_rfl))
 f243:=Tryz.func148.trans (congrArg some (by kernel_rfl))
 f246:=Tryz.func179.trans (congrArg some (by kernel_rfl))
 f283:=Tryz.func132.trans (congrArg some (by kernel_rfl))
 f284:=Tryz.func133.trans (congrArg some (by kernel_rfl))
 f285:=Tryz.func134.trans (congrArg some (by kernel_rfl))
 f286:=Tryz.func135.trans (congrArg some (by kernel_rfl))
 f317:=Tryz.func167.trans (congrArg some (by kernel_rfl))
 f318:=Tryz.func169.trans (congrArg some (by kernel_rfl))
 f319:=Tryz.func170.trans (congrArg some (by kernel_rfl))
 f320:=Tryz.func171.trans (congrArg some (by kernel_rfl))
 f337:=Tryz.func193.trans (congrArg some (by kernel_rfl))
 f338:=Tryz.func194.trans (congrArg some (by kernel_rfl))
 t0:=Tryz.underlying0
 a0:=Tryz.isAgg0
 z0:=Tryz.sizeOf0
 v0:=Tryz.zeroValue0
 t2:=Tryz.underlying2
 a2:=Tryz.isAgg2
 z2:=Tryz.sizeOf2
 v2:=Tryz.zeroValue2
 t3:=Tryz.underlying3
 a3:=Tryz.isAgg3
 z3:=Tryz.sizeOf3
 v3:=Tryz.zeroValue3
 t4:=Tryz.underlying4
 a4:=Tryz.isAgg4
 z4:=Tryz.sizeOf4
 v4:=Tryz.zeroValue4
 t5:=Tryz.underlying5
 a5:=Tryz.isAgg5
 z5:=Tryz.sizeOf5
 v5:=Tryz.zeroValue5
 t9:=Tryz.underlying9
 a9:=Tryz.isAgg9
 z9:=Tryz.sizeOf9
 v9:=Tryz.zeroValue9
 t20:=Tryz.underlying20
 a20:=Tryz.isAgg20
 z20:=Tryz.sizeOf20
 v20:=Tryz.zeroValue20
 t37:=Tryz.underlying48
 a37:=Tryz.isAgg48
 z37:=Tryz.sizeOf48
 v37:=Tryz.zeroValue48
 t46:=Tryz.underlying100
 a46:=Tryz.isAgg100
 z46:=Tryz.sizeOf100
 v46:=Tryz.zeroValue100
 t51:=Tryz.underlying39
 a51:=Tryz.isAgg39
 z51:=Tryz.sizeOf39
 v51:=Tryz.zeroValue39
 t53:=Tryz.underlying40
 a53:=Tryz.isAgg40
 z53:=Tryz.sizeOf40
 v53:=Tryz.zeroValue40
 t171:=Tryz.underlying178
 a171:=Tryz.isAgg178
 z171:=Tryz.sizeOf178
 v171:=Tryz.zeroValue178
 t173:=Tryz.underlying181
 a173:=Tryz.isAgg181
 z173:=Tryz.sizeOf181
 v173:=Tryz.zeroValue181
 t212:=Tryz.underlying210
 a212:=Tryz.isAgg210
 z212:=Tryz.sizeOf210
 v212:=Tryz.zeroValue210
 t213:=Tryz.underlying211
 a213:=Tryz.isAgg211
 z213:=Tryz.sizeOf211
 t232:=Tryz.underlying236
 a232:=Tryz.isAgg236
 z232:=Tryz.sizeOf236
 v232:=Tryz.zeroValue236
 t233:=Tryz.underlying237
 a233:=Tryz.isAgg237
 z233:=Tryz.sizeOf237
 v233:=Tryz.zeroValue237
 g17:=by kernel_rfl
 g18:=by kernel_rfl
 g19:=by kernel_rfl
 i0:=by kernel_rfl
 i2:=by kernel_rfl
 i3:=by kernel_rfl
 i4:=by kernel_rfl
 i5:=by kernel_rfl
 i9:=by kernel_rfl
 i20:=by kernel_rfl
 i37:=by kernel_rfl
 i46:=by kernel_rfl
 i51:=by kernel_rfl
 i53:=by kernel_rfl
 i171:=by kernel_rfl
 i173:=by kernel_rfl
 i212:=by kernel_rfl
 i232:=by kernel_rfl
 i233:=by kernel_rfl
 m17:=by kernel_rfl
 m18:=by kernel_rfl
 m19:=by kernel_rfl }
open Go.RowKit Go.Sort Go.Lib in
theorem strconv_Itoa (n:Int) (h0 : -9223372036854775808≤n) (h1:n≤9223372036854775807) (w:World) (htab:Lib.TabIs Tryz.prog w "internal/strconv.uint64pow10" .u64 Lib.pow10Tab) :
  Calls Tryz.prog 101 #[.int .i64 n] w λ e w'=>e=.returned (.string ⟨(Lib.itoa n).toArray⟩)∧∃ k os,w'=grow (w.drewN k) os:=Any.strconv_Itoa laysM171 n h0 h1 w htab
def laysC245_ren:Go.Shelf.Ren:=⟨λ | 245=>161 | 279=>188 | 280=>189 | 281=>190 | 282=>191 | 316=>203 | 171=>101 | 205=>204 | 243=>148 | 246=>179 | 283=>132 | 284=>133 | 285=>134 | 286=>135 | 129=>168 | 317=>167 | 318=>169 | 319=>170 | 320=>171 | 337=>193 | 338=>194 | n=>n,λ | 9=>9 | 3=>3 | 75=>113 | 167=>222 | 4=>4 | 168=>225 | 210=>234 | 37=>48 | 0=>0 | 127=>161 | 145=>240 | 143=>238 | 2=>2 | 171=>178 | 53=>40 | 5=>5 | 173=>181 | 212=>210 | 51=>39 | 20=>20 | 213=>211 | 46=>100 | 232=>236 | 233=>237 | 80=>118 | n=>n,λ | 15=>5 | 16=>6 | 17=>1 | 18=>7 | 19=>8 | n=>n⟩
theorem laysC245:Go.Proofs.LaysC.n245 Tryz.prog laysC245_ren:={
 mixed:=by kernel_rfl
 f129:=Tryz.func168.trans (congrArg some (by kernel_rfl))
 f171:=Tryz.func101.trans (congrArg some (by kernel_rfl))
 f205:=Tryz.func204.trans (congrArg some (by kernel_rfl))
 f243:=Tryz.func148.trans (congrArg some (by kernel_rfl))
 f245:=Tryz.func161.trans (congrArg some (by kernel_rfl))
 f246:=Tryz.func179.trans (congrArg some (by kernel_rfl))
 f279:=Tryz.func188.trans (congrArg some (by kernel_rfl))
 f280:=Tryz.func189.trans (congrArg some (by kernel_rfl))
 f281:=Tryz.func190.trans (congrArg some (by kernel_rfl))
 f282:=Tryz.func191.trans (congrArg some (by kernel_rfl))
 f283:=Tryz.func132.trans (congrArg some (by kernel_rfl))
 f284:=Tryz.func133.trans (congrArg some (by kernel_rfl))
 f285:=Tryz.func134.trans (congrArg some (by kernel_rfl))
 f286:=Tryz.func135.trans (congrArg some (by kernel_rfl))
 f316:=Tryz.func203.trans (congrArg some (by kernel_rfl))
 f317:=Tryz.func167.trans (congrArg some (by kernel_rfl))
 f318:=Tryz.func169.trans (congrArg some (by kernel_rfl))
 f319:=Tryz.func170.trans (congrArg some (by kernel_rfl))
 f320:=Tryz.func171.trans (congrArg some (by kernel_rfl))
 f337:=Tryz.func193.trans (congrArg some (by kernel_rfl))
 f338:=Tryz.func194.trans (congrArg some (by kernel_rfl))
 t0:=Tryz.underlying0
 a0:=Tryz.isAgg0
 z0:=Tryz.sizeOf0
 v0:=Tryz.zeroValue0
 t2:=Tryz.underlying2
 a2:=Tryz.isAgg2
 z2:=Tryz.sizeOf2
 v2:=Tryz.zeroValue2
 t3:=Tryz.underlying3
 a3:=Tryz.isAgg3
 z3:=Tryz.sizeOf3
 v3:=Tryz.zeroValue3
 t4:=Tryz.underlying4
 a4:=Tryz.isAgg4
 z4:=Tryz.sizeOf4
 v4:=Tryz.zeroValue4
 t5:=Tryz.underlying5
 a5:=Tryz.isAgg5
 z5:=Tryz.sizeOf5
 v5:=Tryz.zeroValue5
 t9:=Tryz.underlying9
 a9:=Tryz.isAgg9
 z9:=Tryz.sizeOf9
 v9:=Tryz.zeroValue9
 t20:=Tryz.underlying20
 a20:=Tryz.isAgg20
 z20:=Tryz.sizeOf20
 v20:=Tryz.zeroValue20
 t37:=Tryz.underlying48
 a37:=Tryz.isAgg48
 z37:=Tryz.sizeOf48
 v37:=Tryz.zeroValue48
 t46:=Tryz.underlying100
 a46:=Tryz.isAgg100
 z46:=Tryz.sizeOf100
 v46:=Tryz.zeroValue100
 t51:=Tryz.underlying39
 a51:=Tryz.isAgg39
 z51:=Tryz.sizeOf39
 v51:=Tryz.zeroValue39
 t53:=Tryz.underlying40
 a53:=Tryz.isAgg40
 z53:=Tryz.sizeOf40
 v53:=Tryz.zeroValue40
 t75:=Tryz.underlying113
 a75:=Tryz.isAgg113
 z75:=Tryz.sizeOf113
 v75:=Tryz.zeroValue113
 t127:=Tryz.underlying161
 a127:=Tryz.isAgg161
 z127:=Tryz.sizeOf161
 v127:=Tryz.zeroValue161
 t143:=Tryz.underlying238
 a143:=Tryz.isAgg238
 z143:=Tryz.sizeOf238
 v143:=Tryz.zeroValue238
 t145:=Tryz.underlying240
 a145:=Tryz.isAgg240
 z145:=Tryz.sizeOf240
 v145:=Tryz.zeroValue240
 t167:=Tryz.underlying222
 a167:=Tryz.isAgg222
 z167:=Tryz.sizeOf222
 v167:=Tryz.zeroValue222
 t168:=Tryz.underlying225
 a168:=Tryz.isAgg225
 z168:=Tryz.sizeOf225
 v168:=Tryz.zeroValue225
 t171:=Tryz.underlying178
 a171:=Tryz.isAgg178
 z171:=Tryz.sizeOf178
 v171:=Tryz.zeroValue178
 t173:=Tryz.underlying181
 a173:=Tryz.isAgg181
 z173:=Tryz.sizeOf181
 v173:=Tryz.zeroValue181
 t210:=Tryz.underlying234
 a210:=Tryz.isAgg234
 z210:=Tryz.sizeOf234
 v210:=Tryz.zeroValue234
 t212:=Tryz.underlying210
 a212:=Tryz.isAgg210
 z212:=Tryz.sizeOf210
 v212:=Tryz.zeroValue210
 t213:=Tryz.underlying211
 a213:=Tryz.isAgg211
 z213:=Tryz.sizeOf211
 t232:=Tryz.underlying236
 a232:=Tryz.isAgg236
 z232:=Tryz.sizeOf236
 v232:=Tryz.zeroValue236
 t233:=Tryz.underlying237
 a233:=Tryz.isAgg237
 z233:=Tryz.sizeOf237
 v233:=Tryz.zeroValue237
 g15:=by kernel_rfl
 g16:=by kernel_rfl
 g17:=by kernel_rfl
 g18:=by kernel_rfl
 g19:=by kernel_rfl
 t80:=Tryz.underlying118
 a80:=Tryz.isAgg118
 z80:=Tryz.sizeOf118
 v80:=Tryz.zeroValue118
 i0:=by kernel_rfl
 i2:=by kernel_rfl
 i3:=by kernel_rfl
 i4:=by kernel_rfl
 i5:=by kernel_rfl
 i9:=by kernel_rfl
 i20:=by kernel_rfl
 i37:=by kernel_rfl
 i46:=by kernel_rfl
 i51:=by kernel_rfl
 i53:=by kernel_rfl
 i75:=by kernel_rfl
 i80:=by kernel_rfl
 i127:=by kernel_rfl
 i143:=by kernel_rfl
 i145:=by kernel_rfl
 i167:=by kernel_rfl
 i168:=by kernel_rfl
 i171:=by kernel_rfl
 i173:=by kernel_rfl
 i210:=by kernel_rfl
 i212:=by kernel_rfl
 i232:=by kernel_rfl
 i233:=by kernel_rfl
 m15:=by kernel_rfl
 m16:=by kernel_rfl
 m17:=by kernel_rfl
 m18:=by kernel_rfl
 m19:=by kernel_rfl
 c0:=by kernel_rfl
 c2:=by kernel_rfl
 c3:=by kernel_rfl
 c4:=by kernel_rfl
 c5:=by kernel_rfl
 c9:=by kernel_rfl
 c20:=by kernel_rfl
 c37:=by kernel_rfl
 c46:=by kernel_rfl
 c51:=by kernel_rfl
 c53:=by kernel_rfl
 c75:=by kernel_rfl
 c80:=by kernel_rfl
 c127:=by kernel_rfl
 c143:=by kernel_rfl
 c145:=by kernel_rfl
 c167:=by kernel_rfl
 c168:=by kernel_rfl
 c171:=by kernel_rfl
 c173:=by kernel_rfl
 c210:=by kernel_rfl
 c212:=by kernel_rfl
 c213:=by kernel_rfl
 c232:=by kernel_rfl
 c233:=by kernel_rfl }
open Go.RowKit in
theorem strconv_toError_syntax (fn s:ByteArray) (base bits:Int) (ev:Value) (w:World) (hlim:s.size≤281474976710656) (hv:w.cell? ⟨5,0,none⟩=some ev) (hev:ev=.nilIface∨∃ te pe,ev=.iface te pe) :
  Calls Tryz.prog 161 #[.string fn,.string s,.int .i64 base,.int .i64 bits,.iface 222 (.int .i64 2)] w λ e w'=>∃ N,e=.returned (.iface 225 (.pointer (some ⟨N,0,none⟩)))∧w.heap.size≤N∧w'.heap[N]? = some (.cells #[.string fn,.string s,ev] 234 (0,0))∧Below w.heap.size w w':=Any.strconv_toError_syntax laysC245 fn s base bits ev w hlim hv hev
def lays287_ren:Go.Shelf.Ren:=⟨λ | 287=>175 | 321=>198 | 322=>199 | n=>n,λ | 9=>9 | 3=>3 | 53=>40 | 75=>113 | 4=>4 | 167=>222 | 5=>5 | 46=>100 | 37=>48 | 0=>0 | 21=>21 | 80=>118 | n=>n,λ | n=>n⟩
theorem lays287:Go.Proofs.Lays.n287 Tryz.prog lays287_ren:={
 mixed:=by kernel_rfl
 f287:=Tryz.func175.trans (congrArg some (by kernel_rfl))
 f321:=Tryz.func198.trans (congrArg some (by kernel_rfl))
 f322:=Tryz.func199.trans (congrArg some (by kernel_rfl))
 t0:=Tryz.underlying0
 a0:=Tryz.isAgg0
 z0:=Tryz.sizeOf0
 v0:=Tryz.zeroValue0
 t3:=Tryz.underlying3
 a3:=Tryz.isAgg3
 z3:=Tryz.sizeOf3
 v3:=Tryz.zeroValue3
 t4:=Tryz.underlying4
 a4:=Tryz.isAgg4
 z4:=Tryz.sizeOf4
 v4:=Tryz.zeroValue4
 t5:=Tryz.underlying5
 a5:=Tryz.isAgg5
 z5:=Tryz.sizeOf5
 v5:=Tryz.zeroValue5
 t9:=Tryz.underlying9
 a9:=Tryz.isAgg9
 z9:=Tryz.sizeOf9
 v9:=Tryz.zeroValue9
 t21:=Tryz.underlying21
 a21:=Tryz.isAgg21
 z21:=Tryz.sizeOf21
 v21:=Tryz.zeroValue21
 t37:=Tryz.underlying48
 a37:=Tryz.isAgg48
 z37:=Tryz.sizeOf48
 v37:=Tryz.zeroValue48
 t46:=Tryz.underlying100
 a46:=Tryz.isAgg100
 z46:=Tryz.sizeOf100
 v46:=Tryz.zeroValue100
 t53:=Tryz.underlying40
 a53:=Tryz.isAgg40
 z53:=Tryz.sizeOf40
 v53:=Tryz.zeroValue40
 t75:=Tryz.underlying113
 a75:=Tryz.isAgg113
 z75:=Tryz.sizeOf113
 v75:=Tryz.zeroValue113
 t167:=Tryz.underlying222
 a167:=Tryz.isAgg222
 z167:=Tryz.sizeOf222
 v167:=Tryz.zeroValue222 }
open Go.RowKit in
theorem strconv_toError_range (fn s:ByteArray) (base bits:Int) (ev:Value) (w:World) (hlim:s.size≤281474976710656) (hv:w.cell? ⟨6,0,none⟩=some ev) (hev:ev=.nilIface∨∃ te pe,ev=.iface te pe) :
  Calls Tryz.prog 161 #[.string fn,.string s,.int .i64 base,.int .i64 bits,.iface 222 (.int .i64 1)] w λ e w'=>∃ N,e=.returned (.iface 225 (.pointer (some ⟨N,0,none⟩)))∧w.heap.size≤N∧w'.heap[N]? = some (.cells #[.string fn,.string s,ev] 234 (0,0))∧Below w.heap.size w w':=Any.strconv_toError_range laysC245 fn s base bits ev w hlim hv hev
def laysC172_ren:Go.Shelf.Ren:=⟨λ | 172=>121 | 244=>160 | 245=>161 | 247=>187 | 279=>188 | 280=>189 | 281=>190 | 282=>191 | 287=>175 | 316=>203 | 171=>101 | 205=>204 | 321=>198 | 322=>199 | 243=>148 | 246=>179 | 283=>132 | 284=>133 | 285=>134 | 286=>135 | 129=>168 | 317=>167 | 318=>169 | 319=>170 | 320=>171 | 337=>193 | 338=>194 | n=>n,λ | 9=>9 | 3=>3 | 75=>113 | 76=>114 | 4=>4 | 5=>5 | 167=>222 | 37=>48 | 0=>0 | 85=>223 | 2=>2 | 168=>225 | 53=>40 | 175=>184 | 46=>100 | 210=>234 | 127=>161 | 145=>240 | 143=>238 | 21=>21 | 171=>178 | 173=>181 | 212=>210 | 51=>39 | 20=>20 | 213=>211 | 232=>236 | 233=>237 | 80=>118 | n=>n,λ | 15=>5 | 16=>6 | 17=>1 | 18=>7 | 19=>8 | n=>n⟩
theorem laysC172:Go.Proofs.LaysC.n172 Tryz.prog laysC172_ren:={
 mixed:=by kernel_rfl
 f129:=Tryz.func168.trans (congrArg some (by kernel_rfl))
 f171:=Tryz.func101.trans (congrArg some (by kernel_rfl))
 f172:=Tryz.func121.trans (congrArg some (by kernel_rfl))
 f205:=Tryz.func204.trans (congrArg some (by kernel_rfl))
 f243:=Tryz.func148.trans (congrArg some (by kernel_rfl))
 f244:=Tryz.func160.trans (congrArg some (by kernel_rfl))
 f245:=Tryz.func161.trans (congrArg some (by kernel_rfl))
 f246:=Tryz.func179.trans (congrArg some (by kernel_rfl))
 f247:=Tryz.func187.trans (congrArg some (by kernel_rfl))
 f279:=Tryz.func188.trans (congrArg some (by kernel_rfl))
 f280:=Tryz.func189.trans (congrArg some (by kernel_rfl))
 f281:=Tryz.func190.trans (congrArg some (by kernel_rfl))
 f282:=Tryz.func191.trans (congrArg some (by kernel_rfl))
 f283:=Tryz.func132.trans (congrArg some (by kernel_rfl))
 f284:=Tryz.func133.trans (congrArg some (by kernel_rfl))
 f285:=Tryz.func134.trans (congrArg some (by kernel_rfl))
 f286:=Tryz.func135.trans (congrArg some (by kernel_rfl))
 f287:=Tryz.func175.trans (congrArg some (by kernel_rfl))
 f316:=Tryz.func203.trans (congrArg some (by kernel_rfl))
 f317:=Tryz.func167.trans (congrArg some (by kernel_rfl))
 f318:=Tryz.func169.trans (congrArg some (by kernel_rfl))
 f319:=Tryz.func170.trans (congrArg some (by kernel_rfl))
 f320:=Tryz.func171.trans (congrArg some (by kernel_rfl))
 f321:=Tryz.func198.trans (congrArg some (by kernel_rfl))
 f322:=Tryz.func199.trans (congrArg some (by kernel_rfl))
 f337:=Tryz.func193.trans (congrArg some (by kernel_rfl))
 f338:=Tryz.func194.trans (congrArg some (by kernel_rfl))
 t0:=Tryz.underlying0
 a0:=Tryz.isAgg0
 z0:=Tryz.sizeOf0
 v0:=Tryz.zeroValue0
 t2:=Tryz.underlying2
 a2:=Tryz.isAgg2
 z2:=Tryz.sizeOf2
 v2:=Tryz.zeroValue2
 t3:=Tryz.underlying3
 a3:=Tryz.isAgg3
 z3:=Tryz.sizeOf3
 v3:=Tryz.zeroValue3
 t4:=Tryz.underlying4
 a4:=Tryz.isAgg4
 z4:=Tryz.sizeOf4
 v4:=Tryz.zeroValue4
 t5:=Tryz.underlying5
 a5:=Tryz.isAgg5
 z5:=Tryz.sizeOf5
 v5:=Tryz.zeroValue5
 t9:=Tryz.underlying9
 a9:=Tryz.isAgg9
 z9:=Tryz.sizeOf9
 v9:=Tryz.zeroValue9
 t20:=Tryz.underlying20
 a20:=Tryz.isAgg20
 z20:=Tryz.sizeOf20
 v20:=Tryz.zeroValue20
 t21:=Tryz.underlying21
 a21:=Tryz.isAgg21
 z21:=Tryz.sizeOf21
 v21:=Tryz.zeroValue21
 t37:=Tryz.underlying48
 a37:=Tryz.isAgg48
 z37:=Tryz.sizeOf48
 v37:=Tryz.zeroValue48
 t46:=Tryz.underlying100
 a46:=Tryz.isAgg100
 z46:=Tryz.sizeOf100
 v46:=Tryz.zeroValue100
 t51:=Tryz.underlying39
 a51:=Tryz.isAgg39
 z51:=Tryz.sizeOf39
 v51:=Tryz.zeroValue39
 t53:=Tryz.underlying40
 a53:=Tryz.isAgg40
 z53:=Tryz.sizeOf40
 v53:=Tryz.zeroValue40
 t75:=Tryz.underlying113
 a75:=Tryz.isAgg113
 z75:=Tryz.sizeOf113
 v75:=Tryz.zeroValue113
 t76:=Tryz.underlying114
 a76:=Tryz.isAgg114
 z76:=Tryz.sizeOf114
 v76:=Tryz.zeroValue114
 t85:=Tryz.underlying223
 a85:=Tryz.isAgg223
 z85:=Tryz.sizeOf223
 v85:=Tryz.zeroValue223
 t127:=Tryz.underlying161
 a127:=Tryz.isAgg161
 z127:=Tryz.sizeOf161
 v127:=Tryz.zeroValue161
 t143:=Tryz.underlying238
 a143:=Tryz.isAgg238
 z143:=Tryz.sizeOf238
 v143:=Tryz.zeroValue238
 t145:=Tryz.underlying240
 a145:=Tryz.isAgg240
 z145:=Tryz.sizeOf240
 v145:=Tryz.zeroValue240
 t167:=Tryz.underlying222
 a167:=Tryz.isAgg222
 z167:=Tryz.sizeOf222
 v167:=Tryz.zeroValue222
 t168:=Tryz.underlying225
 a168:=Tryz.isAgg225
 z168:=Tryz.sizeOf225
 v168:=Tryz.zeroValue225
 t171:=Tryz.underlying178
 a171:=Tryz.isAgg178
 z171:=Tryz.sizeOf178
 v171:=Tryz.zeroValue178
 t173:=Tryz.underlying181
 a173:=Tryz.isAgg181
 z173:=Tryz.sizeOf181
 v173:=Tryz.zeroValue181
 t175:=Tryz.underlying184
 a175:=Tryz.isAgg184
 z175:=Tryz.sizeOf184
 v175:=Tryz.zeroValue184
 t210:=Tryz.underlying234
 a210:=Tryz.isAgg234
 z210:=Tryz.sizeOf234
 v210:=Tryz.zeroValue234
 t212:=Tryz.underlying210
 a212:=Tryz.isAgg210
 z212:=Tryz.sizeOf210
 v212:=Tryz.zeroValue210
 t213:=Tryz.underlying211
 a213:=Tryz.isAgg211
 z213:=Tryz.sizeOf211
 t232:=Tryz.underlying236
 a232:=Tryz.isAgg236
 z232:=Tryz.sizeOf236
 v232:=Tryz.zeroValue236
 t233:=Tryz.underlying237
 a233:=Tryz.isAgg237
 z233:=Tryz.sizeOf237
 v233:=Tryz.zeroValue237
 g15:=by kernel_rfl
 g16:=by kernel_rfl
 g17:=by kernel_rfl
 g18:=by kernel_rfl
 g19:=by kernel_rfl
 t80:=Tryz.underlying118
 a80:=Tryz.isAgg118
 z80:=Tryz.sizeOf118
 v80:=Tryz.zeroValue118
 i0:=by kernel_rfl
 i2:=by kernel_rfl
 i3:=by kernel_rfl
 i4:=by kernel_rfl
 i5:=by kernel_rfl
 i9:=by kernel_rfl
 i20:=by kernel_rfl
 i21:=by kernel_rfl
 i37:=by kernel_rfl
 i46:=by kernel_rfl
 i51:=by kernel_rfl
 i53:=by kernel_rfl
 i75:=by kernel_rfl
 i76:=by kernel_rfl
 i80:=by kernel_rfl
 i85:=by kernel_rfl
 i127:=by kernel_rfl
 i143:=by kernel_rfl
 i145:=by kernel_rfl
 i167:=by kernel_rfl
 i168:=by kernel_rfl
 i171:=by kernel_rfl
 i173:=by kernel_rfl
 i175:=by kernel_rfl
 i210:=by kernel_rfl
 i212:=by kernel_rfl
 i232:=by kernel_rfl
 i233:=by kernel_rfl
 m15:=by kernel_rfl
 m16:=by kernel_rfl
 m17:=by kernel_rfl
 m18:=by kernel_rfl
 m19:=by kernel_rfl
 c0:=by kernel_rfl
 c2:=by kernel_rfl
 c3:=by kernel_rfl
 c4:=by kernel_rfl
 c5:=by kernel_rfl
 c9:=by kernel_rfl
 c20:=by kernel_rfl
 c21:=by kernel_rfl
 c37:=by kernel_rfl
 c46:=by kernel_rfl
 c51:=by kernel_rfl
 c53:=by kernel_rfl
 c75:=by kernel_rfl
 c76:=by kernel_rfl
 c80:=by kernel_rfl
 c85:=by kernel_rfl
 c127:=by kernel_rfl
 c143:=by kernel_rfl
 c145:=by kernel_rfl
 c167:=by kernel_rfl
 c168:=by kernel_rfl
 c171:=by kernel_rfl
 c173:=by kernel_rfl
 c175:=by kernel_rfl
 c210:=by kernel_rfl
 c212:=by kernel_rfl
 c213:=by kernel_rfl
 c232:=by kernel_rfl
 c233:=by kernel_rfl }
open Go.RowKit in
theorem strconv_Atoi_ok (s:ByteArray) (hmax:s.size≤9223372036854775806) (v:Int) (h:Lib.atoiAll s.data.toList=.ok v) (w:World) :
  Calls Tryz.prog 121 #[.string s] w λ e w'=>e=.returned (.tuple #[.int .i64 v,.nilIface])∧(w'=w∨∃ t,w'=Lib.bytesWorld w 5 t):=Any.strconv_Atoi_ok laysC172 s hmax v h w
open Go.RowKit in
theorem strconv_Atoi_syntax (s:ByteArray) (hlim:s.size≤281474976710656) (h:Lib.atoiAll s.data.toList=Lib.atoiAll []) (ev:Value) (w:World) (hv:w.cell? ⟨5,0,none⟩=some ev) (hev:ev=.nilIface∨∃ te pe,ev=.iface te pe) :
  Calls Tryz.prog 121 #[.string s] w λ e w'=>∃ N,e=.returned (.tuple #[.int .i64 (0),.iface 225 (.pointer (some ⟨N,0,none⟩))])∧w.heap.size≤N∧w'.heap[N]? = some (.cells #[.string ⟨#[65,116,111,105]⟩,.string s,ev] 234 (0,0))∧Below w.heap.size w w':=Any.strconv_Atoi_syntax laysC172 s hlim h ev w hv hev
open Go.RowKit in
theorem strconv_Atoi_range (s:ByteArray) (hlim:s.size≤281474976710656) (h:Lib.atoiAll s.data.toList=.range) (ev:Value) (w:World) (hv:w.cell? ⟨6,0,none⟩=some ev) (hev:ev=.nilIface∨∃ te pe,ev=.iface te pe) :
  Calls Tryz.prog 121 #[.string s] w λ e w'=>∃ N,e=.returned (.tuple #[.int .i64 (Lib.atoiSat s.data.toList),.iface 225 (.pointer (some ⟨N,0,none⟩))])∧w.heap.size≤N∧w'.heap[N]? = some (.cells #[.string ⟨#[65,116,111,105]⟩,.string s,ev] 234 (0,0))∧Below w.heap.size w w':=Any.strconv_Atoi_range laysC172 s hlim h ev w hv hev
open Go.RowKit in
theorem internal_strconv_ParseUint_10_at64 (t:ByteArray) (hmax:t.size≤9223372036854775806) (w:World) :
  Calls Tryz.prog 175 #[.string t,.int .i64 10,.int .i64 64] w λ e w'=>e=.returned (Lib.uintTupleM 222 18446744073709551615 (Lib.parseUintB 64 t.data.toList))∧(w'=w∨w'=Lib.bytesWorld w 5 t):=Any.internal_strconv_ParseUint_10_at64 lays287 t hmax w
def lays143_ren:Go.Shelf.Ren:=⟨λ | 143=>174 | 219=>159 | 217=>119 | 225=>184 | 224=>185 | 267=>186 | 266=>158 | 314=>202 | n=>n,λ | 9=>9 | 3=>3 | 4=>4 | 5=>5 | 46=>100 | 146=>231 | 51=>39 | n=>n,λ | 1=>4 | n=>n⟩
theorem lays143:Go.Proofs.Lays.n143 Tryz.prog lays143_ren:={
 mixed:=by kernel_rfl
 f143:=Tryz.func174.trans (congrArg some (by kernel_rfl))
 f217:=Tryz.func119.trans (congrArg some (by kernel_rfl))
 f219:=Tryz.func159.trans (congrArg some (by kernel_rfl))
 f224:=Tryz.func185.trans (congrArg some (by kernel_rfl))
 f225:=Tryz.func184.trans (congrArg some (by kernel_rfl))
 f266:=Tryz.func158.trans (congrArg some (by kernel_rfl))
 f267:=Tryz.func186.trans (congrArg some (by kernel_rfl))
 f314:=Tryz.func202.trans (congrArg some (by kernel_rfl))
 t3:=Tryz.underlying3
 a3:=Tryz.isAgg3
 z3:=Tryz.sizeOf3
 v3:=Tryz.zeroValue3
 t4:=Tryz.underlying4
 a4:=Tryz.isAgg4
 z4:=Tryz.sizeOf4
 v4:=Tryz.zeroValue4
 t5:=Tryz.underlying5
 a5:=Tryz.isAgg5
 z5:=Tryz.sizeOf5
 v5:=Tryz.zeroValue5
 t9:=Tryz.underlying9
 a9:=Tryz.isAgg9
 z9:=Tryz.sizeOf9
 v9:=Tryz.zeroValue9
 t46:=Tryz.underlying100
 a46:=Tryz.isAgg100
 z46:=Tryz.sizeOf100
 v46:=Tryz.zeroValue100
 t51:=Tryz.underlying39
 a51:=Tryz.isAgg39
 z51:=Tryz.sizeOf39
 v51:=Tryz.zeroValue39
 t146:=Tryz.underlying231
 a146:=Tryz.isAgg231
 z146:=Tryz.sizeOf231
 v146:=Tryz.zeroValue231
 g1:=by kernel_rfl }
open Go.RowKit Go.Lib in
open Go.RowKit Go.Lib in
theorem strings_Index (s sub:ByteArray) (m:Int) (w:World) (hs:s.size < 4294967281) (hm:w.cell? ⟨4,0,none⟩=some (.int .i64 m)) :
  Calls Tryz.prog 174 #[.string s,.string sub] w λ e w'=>e=.returned (.int .i64 (Lib.index s.data.toList sub.data.toList))∧w'=w:=Any.strings_Index lays143 s sub m w hs hm
def lays145_ren:Go.Shelf.Ren:=⟨λ | 145=>75 | 220=>120 | 219=>159 | 217=>119 | 225=>184 | 224=>185 | 267=>186 | 266=>158 | 314=>202 | n=>n,λ | 9=>9 | 4=>4 | 59=>132 | 3=>3 | 5=>5 | 46=>100 | 146=>231 | 51=>39 | n=>n,λ | 1=>4 | n=>n⟩
theorem lays145:Go.Proofs.Lays.n145 Tryz.prog lays145_ren:={
 mixed:=by kernel_rfl
 f145:=Tryz.func75.trans (congrArg some (by kernel_rfl))
 f217:=Tryz.func119.trans (congrArg some (by kernel_rfl))
 f219:=Tryz.func159.trans (congrArg some (by kernel_rfl))
 f220:=Tryz.func120.trans (congrArg some (by kernel_rfl))
 f224:=Tryz.func185.trans (congrArg some (by kernel_rfl))
 f225:=Tryz.func184.trans (congrArg some (by kernel_rfl))
 f266:=Tryz.func158.trans (congrArg some (by kernel_rfl))
 f267:=Tryz.func186.trans (congrArg some (by kernel_rfl))
 f314:=Tryz.func202.trans (congrArg some (by kernel_rfl))
 t3:=Tryz.underlying3
 a3:=Tryz.isAgg3
 z3:=Tryz.sizeOf3
 v3:=Tryz.zeroValue3
 t4:=Tryz.underlying4
 a4:=Tryz.isAgg4
 z4:=Tryz.sizeOf4
 v4:=Tryz.zeroValue4
 t5:=Tryz.underlying5
 a5:=Tryz.isAgg5
 z5:=Tryz.sizeOf5
 v5:=Tryz.zeroValue5
 t9:=Tryz.underlying9
 a9:=Tryz.isAgg9
 z9:=Tryz.sizeOf9
 v9:=Tryz.zeroValue9
 t46:=Tryz.underlying100
 a46:=Tryz.isAgg100
 z46:=Tryz.sizeOf100
 v46:=Tryz.zeroValue100
 t51:=Tryz.underlying39
 a51:=Tryz.isAgg39
 z51:=Tryz.sizeOf39
 v51:=Tryz.zeroValue39
 t59:=Tryz.underlying132
 a59:=Tryz.isAgg132
 z59:=Tryz.sizeOf132
 v59:=Tryz.zeroValue132
 t146:=Tryz.underlying231
 a146:=Tryz.isAgg231
 z146:=Tryz.sizeOf231
 v146:=Tryz.zeroValue231
 g1:=by kernel_rfl }
open Go.RowKit Go.Lib in
theorem strings_Cut (s sep:ByteArray) (m:Int) (w:World) (hs:s.size < 4294967281) (hm:w.cell? ⟨4,0,none⟩=some (.int .i64 m)) :
  Calls Tryz.prog 75 #[.string s,.string sep] w λ e w'=>e=.returned (.tuple #[.string ⟨(Lib.cut s.data.toList sep.data.toList).1.toArray⟩,.string ⟨(Lib.cut s.data.toList sep.data.toList).2.1.toArray⟩,.bool (Lib.cut s.data.toList sep.data.toList).2.2])∧∃ n,w'=w.drewN n:=Any.strings_Cut lays145 s sep m w hs hm
def lays138_ren:Go.Shelf.Ren:=⟨λ | 138=>173 | 195=>195 | 218=>197 | 143=>174 | 219=>159 | 217=>119 | 225=>184 | 224=>185 | 267=>186 | 266=>158 | 314=>202 | n=>n,λ | 9=>9 | 3=>3 | 4=>4 | 5=>5 | 0=>0 | 46=>100 | 146=>231 | 51=>39 | n=>n,λ | 1=>4 | n=>n⟩
theorem lays138:Go.Proofs.Lays.n138 Tryz.prog lays138_ren:={
 mixed:=by kernel_rfl
 f138:=Tryz.func173.trans (congrArg some (by kernel_rfl))
 f143:=Tryz.func174.trans (congrArg some (by kernel_rfl))
 f195:=Tryz.func195.trans (congrArg some (by kernel_rfl))
 f217:=Tryz.func119.trans (congrArg some (by kernel_rfl))
 f218:=Tryz.func197.trans (congrArg some (by kernel_rfl))
 f219:=Tryz.func159.trans (congrArg some (by kernel_rfl))
 f224:=Tryz.func185.trans (congrArg some (by kernel_rfl))
 f225:=Tryz.func184.trans (congrArg some (by kernel_rfl))
 f266:=Tryz.func158.trans (congrArg some (by kernel_rfl))
 f267:=Tryz.func186.trans (congrArg some (by kernel_rfl))
 f314:=Tryz.func202.trans (congrArg some (by kernel_rfl))
 t0:=Tryz.underlying0
 a0:=Tryz.isAgg0
 z0:=Tryz.sizeOf0
 v0:=Tryz.zeroValue0
 t3:=Tryz.underlying3
 a3:=Tryz.isAgg3
 z3:=Tryz.sizeOf3
 v3:=Tryz.zeroValue3
 t4:=Tryz.underlying4
 a4:=Tryz.isAgg4
 z4:=Tryz.sizeOf4
 v4:=Tryz.zeroValue4
 t5:=Tryz.underlying5
 a5:=Tryz.isAgg5
 z5:=Tryz.sizeOf5
 v5:=Tryz.zeroValue5
 t9:=Tryz.underlying9
 a9:=Tryz.isAgg9
 z9:=Tryz.sizeOf9
 v9:=Tryz.zeroValue9
 t46:=Tryz.underlying100
 a46:=Tryz.isAgg100
 z46:=Tryz.sizeOf100
 v46:=Tryz.zeroValue100
 t51:=Tryz.underlying39
 a51:=Tryz.isAgg39
 z51:=Tryz.sizeOf39
 v51:=Tryz.zeroValue39
 t146:=Tryz.underlying231
 a146:=Tryz.isAgg231
 z146:=Tryz.sizeOf231
 v146:=Tryz.zeroValue231
 g1:=by kernel_rfl }
open Go.RowKit Go.Lib in
theorem strings_Count_one (s:ByteArray) (c:UInt8) (w:World) :
  Calls Tryz.prog 173 #[.string s,.string ⟨#[c]⟩] w λ e w'=>e=.returned (.int .i64 (Lib.countByte s.data.toList c))∧w'=w:=Any.strings_Count_one lays138 s c w
def lays99_ren:Go.Shelf.Ren:=⟨λ | 99=>69 | 206=>115 | n=>n,λ | 9=>9 | 4=>4 | 3=>3 | n=>n,λ | n=>n⟩
theorem lays99:Go.Proofs.Lays.n99 Tryz.prog lays99_ren:={
 mixed:=by kernel_rfl
 f99:=Tryz.func69.trans (congrArg some (by kernel_rfl))
 f206:=Tryz.func115.trans (congrArg some (by kernel_rfl))
 t3:=Tryz.underlying3
 a3:=Tryz.isAgg3
 z3:=Tryz.sizeOf3
 v3:=Tryz.zeroValue3
 t4:=Tryz.underlying4
 a4:=Tryz.isAgg4
 z4:=Tryz.sizeOf4
 v4:=Tryz.zeroValue4
 t9:=Tryz.underlying9
 a9:=Tryz.isAgg9
 z9:=Tryz.sizeOf9
 v9:=Tryz.zeroValue9 }
open Go.RowKit Go.Lib in
theorem strings_HasPrefix (s p:ByteArray) (w:World) :
  Calls Tryz.prog 69 #[.string s,.string p] w λ e w'=>e=.returned (.bool (Lib.hasPrefix s.data.toList p.data.toList))∧w'=w:=Any.strings_HasPrefix lays99 s p w
open Go.RowKit Go.Lib in
def lays146_ren:Go.Shelf.Ren:=⟨λ | 146=>89 | 221=>136 | 268=>172 | 138=>173 | 143=>174 | 195=>195 | 197=>196 | 218=>197 | 219=>159 | 260=>205 | 217=>119 | 225=>184 | 224=>185 | 267=>186 | 266=>158 | 314=>202 | n=>n,λ | 9=>9 | 31=>71 | 3=>3 | 4=>4 | 0=>0 | 105=>229 | 21=>21 | 5=>5 | 46=>100 | 119=>241 | 139=>244 | 138=>243 | 146=>231 | 51=>39 | n=>n,λ | 1=>4 | 3=>9 | 4=>10 | n=>n⟩
theorem lays146:Go.Proofs.Lays.n146 Tryz.prog lays146_ren:={
 mixed:=by kernel_rfl
 f138:=Tryz.func173.trans (congrArg some (by kernel_rfl))
 f143:=Tryz.func174.trans (congrArg some (by kernel_rfl))
 f146:=Tryz.func89.trans (congrArg some (by kernel_rfl))
 f195:=Tryz.func195.trans (congrArg some (by kernel_rfl))
 f197:=Tryz.func196.trans (congrArg some (by kernel_rfl))
 f217:=Tryz.func119.trans (congrArg some (by kernel_rfl))
 f218:=Tryz.func197.trans (congrArg some (by kernel_rfl))
 f219:=Tryz.func159.trans (congrArg some (by kernel_rfl))
 f221:=Tryz.func136.trans (congrArg some (by kernel_rfl))
 f224:=Tryz.func185.trans (congrArg some (by kernel_rfl))
 f225:=Tryz.func184.trans (congrArg some (by kernel_rfl))
 f260:=Tryz.func205.trans (congrArg some (by kernel_rfl))
 f266:=Tryz.func158.trans (congrArg some (by kernel_rfl))
 f267:=Tryz.func186.trans (congrArg some (by kernel_rfl))
 f268:=Tryz.func172.trans (congrArg some (by kernel_rfl))
 f314:=Tryz.func202.trans (congrArg some (by kernel_rfl))
 t0:=Tryz.underlying0
 a0:=Tryz.isAgg0
 z0:=Tryz.sizeOf0
 v0:=Tryz.zeroValue0
 t3:=Tryz.underlying3
 a3:=Tryz.isAgg3
 z3:=Tryz.sizeOf3
 v3:=Tryz.zeroValue3
 t4:=Tryz.underlying4
 a4:=Tryz.isAgg4
 z4:=Tryz.sizeOf4
 v4:=Tryz.zeroValue4
 t5:=Tryz.underlying5
 a5:=Tryz.isAgg5
 z5:=Tryz.sizeOf5
 v5:=Tryz.zeroValue5
 t9:=Tryz.underlying9
 a9:=Tryz.isAgg9
 z9:=Tryz.sizeOf9
 v9:=Tryz.zeroValue9
 t21:=Tryz.underlying21
 a21:=Tryz.isAgg21
 z21:=Tryz.sizeOf21
 v21:=Tryz.zeroValue21
 t31:=Tryz.underlying71
 a31:=Tryz.isAgg71
 z31:=Tryz.sizeOf71
 v31:=Tryz.zeroValue71
 t46:=Tryz.underlying100
 a46:=Tryz.isAgg100
 z46:=Tryz.sizeOf100
 v46:=Tryz.zeroValue100
 t51:=Tryz.underlying39
 a51:=Tryz.isAgg39
 z51:=Tryz.sizeOf39
 v51:=Tryz.zeroValue39
 t105:=Tryz.underlying229
 a105:=Tryz.isAgg229
 z105:=Tryz.sizeOf229
 v105:=Tryz.zeroValue229
 t119:=Tryz.underlying241
 a119:=Tryz.isAgg241
 z119:=Tryz.sizeOf241
 t138:=Tryz.underlying243
 a138:=Tryz.isAgg243
 z138:=Tryz.sizeOf243
 v138:=Tryz.zeroValue243
 t139:=Tryz.underlying244
 a139:=Tryz.isAgg244
 z139:=Tryz.sizeOf244
 v139:=Tryz.zeroValue244
 t146:=Tryz.underlying231
 a146:=Tryz.isAgg231
 z146:=Tryz.sizeOf231
 v146:=Tryz.zeroValue231
 g1:=by kernel_rfl
 g3:=by kernel_rfl
 g4:=by kernel_rfl }
open Go.RowKit Go.Lib in
theorem strings_Split (s sep:ByteArray) (m:Int) (w:World) (hs:s.size < 4294967281) (hm:w.cell? ⟨4,0,none⟩=some (.int .i64 m)) (h1:1≤sep.size) :
  Calls Tryz.prog 89 #[.string s,.string sep] w λ e w' =>
   e=.returned (.slice (some ⟨w.heap.size,0,none⟩) (Lib.countB s sep+1) (Lib.countB s sep+1))∧w'=w.alloc (.cells ((Lib.splitB sep 0 (Lib.countB s sep) s).map Value.string).toArray 9):=Any.strings_Split lays146 (by kernel_rfl) s sep m w hs hm h1
end Go.Proofs.YtppodgdhdddfkaaGreatDoor.Sh
set_option linter.unusedVariables false
set_option linter.unusedSimpArgs false
namespace Go.Proofs.YtppodgdhdddfkaaGreatDoor.Sg
open Go Go.RowKit Go.Proofs.YtppodgdhdddfkaaGreatDoor.Sx
section
variable {Z:ZP} {w:World}
theorem cz_of {P:Program} {f:Nat} {vs:List Value} {E:Ending→World→Prop} {Q:Value→World→Prop} (hcf:CF P f) (h:Calls P f vs.toArray w E) (k:∀ e w',E e w'→∃ v,e=.returned v∧Q v w'):Cz P f vs w Q Z:=
 ⟨hcf,h.mono λ e w' he=>by obtain ⟨v,rfl,hq⟩:=k e w' he;exact hq⟩
def rT:Rl Bs:=rE (λ l=>[Tx l]) 1 (λ _=>rfl) (λ _=>one1 rfl)
def MaxW (w:World):Prop:=∃ m,w.cell? ⟨4,0,none⟩=some (.int .i64 m)
def TabW (w:World):Prop:=∃ T f,w.heap[(1:Nat)]? = some (.cells (Lib.pow10Tab.map λ z=>Value.int .u64 z).toArray T f)
def ifc (v:Value):Prop:=v=.nilIface∨∃ t p,v=.iface t p
def ErrW (w:World):Prop:=(∃ v,w.cell? ⟨5,0,none⟩=some v∧ifc v)∧∃ v,w.cell? ⟨6,0,none⟩=some v∧ifc v
structure GW (w:World):Prop where
 m:MaxW w
 t:TabW w
 e:ErrW w
theorem GW.up {w':World} (h:GW w) (f:Fr [] w w'):GW w':=by
 obtain ⟨⟨m,hm⟩,⟨T,g,ht⟩,⟨v,hv,iv⟩,⟨u,hu,iu⟩⟩:=h
 exact ⟨⟨m,f.c hm⟩,⟨T,g,(f.keep _ (Array.getElem?_eq_some_iff.1 ht).1 (by simp)).trans ht⟩,⟨v,f.c hv,iv⟩,⟨u,f.c hu,iu⟩⟩
theorem IndexByte_t (a:Bs) (c:UInt8):Cz Tryz.prog 73 [Tx a,.int .u8 (c.toNat:Nat)] w (λ r w'=>r=I (Lib.indexByte a c)∧w'=w) Z:=
 cz_of Tryz.call73 (Sh.strings_IndexByte ⟨a.toArray⟩ (c.toNat:Nat) w) (by rintro e w' ⟨rfl,rfl⟩;exact ⟨_,rfl,by simp,rfl⟩)
theorem CutSuffix_t (a p:Bs) (hl:a.length≤9223372036854775807):Cz Tryz.prog 70 [Tx a,Tx p] w (λ r w'=>r=.tuple #[Tx (Lib.trimSuffix a p),.bool (Lib.hasSuffix a p)]∧w'=w) Z:=
 cz_of Tryz.call70 (Sh.strings_CutSuffix ⟨a.toArray⟩ ⟨p.toArray⟩ w (by rw [tx_size];exact hl)) (by rintro e w' ⟨rfl,rfl⟩;exact ⟨_,rfl,by simp,rfl⟩)
theorem Index_t (a p:Bs) (hl:a.length < 4294967281) (hw:MaxW w):Cz Tryz.prog 174 [Tx a,Tx p] w (λ r w'=>r=I (Lib.index a p)∧w'=w) Z:=by
 obtain ⟨m,hm⟩:=hw
 exact cz_of Tryz.call174 (Sh.strings_Index ⟨a.toArray⟩ ⟨p.toArray⟩ m w (by rw [tx_size];exact hl) hm) (by rintro e w' ⟨rfl,rfl⟩;exact ⟨_,rfl,by simp,rfl⟩)
theorem Count1_t (a:Bs) (c:UInt8):Cz Tryz.prog 173 [Tx a,Tx [c]] w (λ r w'=>r=I (a.count c:Nat)∧w'=w) Z:=
 cz_of Tryz.call173 (Sh.strings_Count_one ⟨a.toArray⟩ c w) (by rintro e w' ⟨rfl,rfl⟩;exact ⟨_,rfl,by simp [Lib.countByte],rfl⟩)
theorem tabIs (h:TabW w):Lib.TabIs Tryz.prog w "internal/strconv.uint64pow10" .u64 Lib.pow10Tab:=by
 obtain ⟨T,f,h⟩:=h
 have m:=Sh.laysM171.m17
 unfold Lib.TabIs World.var?
 rw [m]
 show (match w.heap[(1:Nat)]? with | some (.cells cs _ _)=>some cs | _=>none)=_
 rw [h]
def in64 (n:Int):Prop:=-9223372036854775808≤n∧n≤9223372036854775807
theorem Itoa_t (n:Int) (hn:in64 n) (h:TabW w):Cz Tryz.prog 101 [I n] w (λ r w'=>r=Tx (Lib.itoa n)∧Fr [] w w') Z:=
 cz_of Tryz.call101 (Sh.strconv_Itoa n hn.1 hn.2 w (tabIs h)) (by
  rintro e w' ⟨rfl,k,os,rfl⟩
  exact ⟨_,rfl,rfl,Fr.of_below ⟨rfl,rfl,rfl,by simp [Go.Sort.grow],λ q hq=>by show (w.heap++os)[q]? = _;rw [Array.getElem?_append_left hq]⟩⟩)
def splitL (c:UInt8) (a:Bs):List Bs:=(Lib.splitB ⟨[c].toArray⟩ 0 (Lib.countB ⟨a.toArray⟩ ⟨[c].toArray⟩) ⟨a.toArray⟩).map λ s=>s.data.toList
theorem Split_t (a:Bs) (c:UInt8) (hl:a.length≤9000000) (hw:MaxW w):Cz Tryz.prog 89 [Tx a,Tx [c]] w (λ r w'=>Sl rT w' r (splitL c a)∧Fr [] w w') Z:=by
 obtain ⟨m,hm⟩:=hw
 refine cz_of Tryz.call89 (Sh.strings_Split ⟨a.toArray⟩ ⟨[c].toArray⟩ m w (by rw [tx_size];omega) hm (by rw [tx_size];simp)) ?_
 rintro e w' ⟨rfl,rfl⟩
 have hlen:(Lib.splitB ⟨[c].toArray⟩ 0 (Lib.countB ⟨a.toArray⟩ ⟨[c].toArray⟩) ⟨a.toArray⟩).length=Lib.countB ⟨a.toArray⟩ ⟨[c].toArray⟩+1:=Lib.splitB_all _ (by rw [tx_size];simp) 0 _ _ rfl
 have hc:Lib.countB ⟨a.toArray⟩ ⟨[c].toArray⟩≤a.length:=by
  have:=Lib.countB_le ⟨[c].toArray⟩ (by rw [tx_size];simp) _ (⟨a.toArray⟩:ByteArray) (Nat.le_refl _)
  rw [tx_size] at this
  exact this
 have hl2:(splitL c a).length=Lib.countB ⟨a.toArray⟩ ⟨[c].toArray⟩+1:=by unfold splitL;rw [List.length_map,hlen]
 refine ⟨_,rfl,⟨some ⟨w.heap.size,0,none⟩,_,by rw [hl2],by rw [hl2];exact Nat.le_refl _,by rw [hl2];simp only [big];omega,λ j x hj=>?_⟩,Fr.alloc w _⟩
 unfold splitL at hj
 rw [List.getElem?_map] at hj
 obtain ⟨s,hs,rfl⟩:=Option.map_eq_some_iff.1 hj
 refine ⟨_,[Tx s.data.toList],rfl,⟨rfl,λ i v hv=>?_⟩,rfl⟩
 match i,hv with
 | 0,hv =>
  simp only [List.getElem?_cons_zero,Option.some.injEq] at hv
  subst hv
  rw [addA_addA]
  show (w.alloc _).cell? ⟨w.heap.size,0+(j * rT.n+0),none⟩=_
  rw [World.cell?_alloc_new]
  have e:0+(j * rT.n+0)=j:=by show 0+(j * 1+0)=j;omega
  rw [e]
  simp only [List.getElem?_toArray,List.getElem?_map,hs,Option.map_some]
 | i+1,hv=>simp at hv
theorem Atoi_t (a:Bs) (hl:a.length≤9000000) (hE:ErrW w):Cz Tryz.prog 121 [Tx a] w (λ r w'=>Fr [] w w'∧((∃ v,Lib.atoiAll a=.ok v∧r=.tuple #[I v,.nilIface])∨((∀ v,Lib.atoiAll a≠.ok v)∧∃ z t p,r=.tuple #[I z,.iface t p]))) Z:=by
 obtain ⟨⟨v1,h1,i1⟩,v2,h2,i2⟩:=hE
 obtain ⟨x,h⟩:∃ x,Lib.atoiAll a=x:=⟨_,rfl⟩
 rw [h]
 rcases x with v | _ | _
 ·refine cz_of Tryz.call121 (Sh.strconv_Atoi_ok ⟨a.toArray⟩ (by rw [tx_size];omega) v (by simpa using h) w) ?_
  rintro e w' ⟨rfl,hw⟩
  refine ⟨_,rfl,?_,.inl ⟨v,rfl,rfl⟩⟩
  rcases hw with rfl | ⟨t,rfl⟩
  ·exact Fr.refl _ _
  ·exact Fr.of_below (Lib.bytesWorld_below _ _ _)
 ·refine cz_of Tryz.call121 (Sh.strconv_Atoi_syntax ⟨a.toArray⟩ (by rw [tx_size];omega) h v1 w h1 i1) ?_
  rintro e w' ⟨N,rfl,_,_,hb⟩
  exact ⟨_,rfl,Fr.of_below hb,.inr ⟨λ v hv=>(nomatch hv),_,_,_,rfl⟩⟩
 ·refine cz_of Tryz.call121 (Sh.strconv_Atoi_range ⟨a.toArray⟩ (by rw [tx_size];omega) (by simpa using h) v2 w h2 i2) ?_
  rintro e w' ⟨N,rfl,_,_,hb⟩
  exact ⟨_,rfl,Fr.of_below hb,.inr ⟨λ v hv=>(nomatch hv),_,_,_,rfl⟩⟩
end
end Go.Proofs.YtppodgdhdddfkaaGreatDoor.Sg
set_option linter.unusedVariables false
set_option linter.unusedSimpArgs false
namespace Go.Proofs.YtppodgdhdddfkaaGreatDoor.Sg
open Go Go.RowKit Go.Proofs Go.Proofs.YtppodgdhdddfkaaGreatDoor.Sx
set_option maxHeartbeats 1000000 in
set_option maxRecDepth 100000 in
theorem copyCheck_fresh (b:Nat) (w:World) (h0:w.cell? ⟨b,0,none⟩=some (.pointer none)) (hsh:w.shape? b=some (111,2)) (hfz:w.frozen? ⟨b,0,none⟩=false) :
  Calls Tryz.prog 99 #[.pointer (some ⟨b,0,none⟩)] w λ e w'=>e=.returned (.tuple #[])∧w'=w.setCell ⟨b,0,none⟩ (.pointer (some ⟨b,0,none⟩)):=by
 have X:=Sh.Builder_Extra_169.toX72
 obtain ⟨j,hj,hjs⟩:=Option.map_eq_some_iff.1 X.sizeBuilder
 have mixed:Tryz.prog.follows .mixedOrders=true:=by kernel_rfl
 have t72:=Tryz.underlying111;have a72:=Tryz.isAgg111;have z72:=Tryz.sizeOf111;have v72:=Tryz.zeroValue111;have u72:=run_underlying t72
 have t70:=Tryz.underlying109;have a70:=Tryz.isAgg109;have z70:=Tryz.sizeOf109;have v70:=Tryz.zeroValue109;have u70:=run_underlying t70
 have t164:=Tryz.underlying191;have a164:=Tryz.isAgg191;have z164:=Tryz.sizeOf191;have v164:=Tryz.zeroValue191;have u164:=run_underlying t164
 have t4:=Tryz.underlying4;have a4:=Tryz.isAgg4;have z4:=Tryz.sizeOf4;have v4:=Tryz.zeroValue4
 go_enter Tryz.func99,Tryz.ntmps99
 go_wp2
 rw [Lib.run_to_unsafe w ⟨b,0,none⟩ t70 t164 hj (by rw [hjs];decide) hsh (Nat.zero_lt_succ 1)]
 simp only [Result.andThen]
 rw [Oper.upon_value]
 go_wp2
 rw [run_callFunc_extern Tryz.func147 (by kernel_rfl) (by kernel_rfl) (by kernel_rfl) (e:=Extern.AbiNoEscape.same) (by kernel_rfl)]
 rw [Lib.run_noEscape]
 simp only [Result.andThen]
 rw [Oper.upon_value]
 go_wp2
 rw [Lib.run_from_unsafe w ⟨b,0,none⟩ t164 t70 hj hsh X.liesBuilder]
 simp only [Result.andThen]
 rw [Oper.upon_value]
 go_wp2
 go_end0
 exact ⟨rfl,rfl⟩
end Go.Proofs.YtppodgdhdddfkaaGreatDoor.Sg
set_option linter.unusedVariables false
set_option linter.unusedSimpArgs false
namespace Go.Proofs.YtppodgdhdddfkaaGreatDoor.Sg
open Go Go.RowKit Go.Proofs.YtppodgdhdddfkaaGreatDoor.Sx
open Go.Proofs.YtppodgdhdddfkaaGreatDoor.Bi (mixed)
section
variable {P:Program} {Z:ZP} {R:Value→World→Prop} {w:World} {A:List Nat→List Value→World→Prop} {B:List Nat→Nat→List Value→World→Prop} {ds:List Nat} {k:Value→T}
theorem r_appT {T ty u e base:Nat} {v:Value} {l s:Bs} (ht:P.underlying T=some (.slice e)) (hu:P.underlying u=some .string) (hi:(P.info? e).map (λ i=>(i.zero,i.size,i.bytes))=some (some (.int .u8 0),1,1)) (ho:w.ownsRow base e 1 v l.length (Lib.byteCells l)) (hb:l.length+s.length≤big) (hbase:base≤w.heap.size)
  (hk:∀ v' w',w'.ownsRow base e 1 v' (l++s).length (Lib.byteCells (l++s))→Fr v.ownBlock.toList w w'→(∀ q∈v'.ownBlock.toList,q∈v.ownBlock.toList∨w.heap.size≤q)→wp P Z R ds (k v') w' A B):wp P Z R ds (.hv (Builtin.append_ #[T,u] ty [v,Tx s].toArray) k) w A B:=by
 obtain ⟨i,h1,h2⟩:=Option.map_eq_some_iff.1 hi
 simp only [Prod.mk.injEq] at h2
 obtain ⟨v',w',hr,ho',hg,_⟩:=Lib.run_append_own_string (P:=P) (w:=w) base T u ty e i ht hu h1 h2.1 h2.2.1 h2.2.2 v l.length (Lib.byteCells l) ho ⟨s.toArray⟩ (by rw [tx_size];simp only [big] at hb;unfold maxLen;omega) (by rw [tx_size];exact hb) hbase
 refine ⟨v',w',hr,hk v' w' ?_ (Fr.of_grown hg) ?_⟩
 ·have e1:Lib.byteCells (l++s)=Lib.byteCells l++Lib.strCells ⟨s.toArray⟩:=by simp [Lib.byteCells,Lib.strCells]
  rw [e1,List.length_append]
  rw [tx_size] at ho'
  exact ho'
 ·have hsz:(ByteArray.mk s.toArray).size=s.length:=tx_size s
  intro q hq
  rcases ho.2 with ⟨rfl,h0⟩ | ⟨g,cap,cur,rfl,hbg,hgc,hnc,hcm,hcs,htake⟩
  ·have ho2:w.ownsRow w.heap.size e 1 (.slice none 0 0) l.length (Lib.byteCells l):=⟨ho.1,.inl ⟨rfl,h0⟩⟩
   obtain ⟨v2,w2,hr2,ho3,_⟩:=Lib.run_append_own_string (P:=P) (w:=w) w.heap.size T u ty e i ht hu h1 h2.1 h2.2.1 h2.2.2 _ l.length (Lib.byteCells l) ho2 ⟨s.toArray⟩ (by rw [tx_size];simp only [big] at hb;unfold maxLen;omega) (by rw [tx_size];exact hb) (Nat.le_refl _)
   have e:=hr.symm.trans hr2
   injection e with e1 e2
   subst e1
   exact .inr (ho3.lt q (by simpa using hq)).1
  ·by_cases hroom:l.length+s.length≤cap
   ·have hr2:=Lib.run_append_room_string (P:=P) w T u ty e i ht hu h1 h2.2.1 g l.length cap cur hgc ⟨s.toArray⟩ (by rw [hsz];exact hroom) (by rw [hsz];simp only [Nat.mul_one] at hcs;omega)
    have e:=hr.symm.trans hr2
    injection e with e1 e2
    subst e1
    exact .inl hq
   ·have hr2:=Lib.run_append_grow_string (P:=P) w T u ty e i (.int .u8 0) ht hu h1 h2.1 ⟨g,0,none⟩ l.length cap (Lib.byteCells l) (by rw [h2.2.1];simp [Lib.byteCells]) (ho.cells (g:=g) rfl) ⟨s.toArray⟩ (by rw [hsz];omega) (by rw [hsz];simp only [big] at hb;omega) (by rw [h2.2.2];exact growslice_fits (by rw [hsz];simp only [big] at hb;omega) (by rw [hsz];simp only [big] at hb;omega))
    have e:=hr.symm.trans hr2
    injection e with e1 e2
    subst e1
    simp only [Value.ownBlock,Option.toList_some,List.mem_singleton] at hq
    subst hq
    exact .inr (Nat.le_refl _)
end
section
variable {Z:ZP} {w:World}
structure Bd (base:Nat) (w:World) (b:Nat) (v:Value) (l:Bs):Prop where
 bl:∃ p,(p=.pointer none∨p=Pt b 0)∧Blk w b 111 [p,v]
 ow:w.ownsRow base 5 1 v l.length (Lib.byteCells l)
 nb:v.ownBlock≠some b
 le:base≤b
theorem Bd.st {base:Nat} {w w':World} {b:Nat} {v:Value} {l:Bs} {S:List Nat} (h:Bd base w b v l) (f:Fr S w w') (h1:b∉S) (h2:∀ q∈S,q∉v.ownBlock.toList):Bd base w' b v l:=
 ⟨let ⟨p,hp,hb⟩:=h.bl;⟨p,hp,hb.fr f h1⟩,own_f h.ow f (λ q hq hs=>h2 q hs hq),h.nb,h.le⟩
theorem r_neqp {P:Program} {Z:ZP} {R:Value→World→Prop} {w:World} {A:List Nat→List Value→World→Prop} {B:List Nat→Nat→List Value→World→Prop} {ds:List Nat} {k:Value→T} {ty te:Nat} {j:TypeInfo} {x y:Operand} {a:Addr} (hp:P.underlying ty=some (.pointer te)) (hj:P.info? te=some j) (hk:wp P Z R ds (k (.bool false)) w A B):wp P Z R ds (.pu (do eqGuard .neq ty x y (.pointer (some a)) (.pointer (some a));binOp .neq ty (.pointer (some a)) (.pointer (some a))) k) w A B:=by
 refine r_pus (λ w'=>?_) hk
 have e0:(eqGuard .neq ty x y (.pointer (some a)) (.pointer (some a))).run P w'=.ok () w':=by unfold eqGuard;rfl
 simp only [Sem.run_bind,e0,Result.andThen_ok]
 exact Lib.run_neq_ptr_same (P:=P) w' a hp hj
theorem copyCheck_t {base b:Nat} {v:Value} {l:Bs} (h:Bd base w b v l):Cz Tryz.prog 99 [Pt b 0] w (λ r w'=>r=.tuple #[]∧Blk w' b 111 [Pt b 0,v]∧Fr [b] w w') Z:=by
 obtain ⟨p,rfl | rfl,hb⟩:=h.bl
 ·refine cz_of Tryz.call99 (copyCheck_fresh b w (hb.cell rfl) (by have hb':w.heap[b]? = _:=hb;simp [World.shape?,hb']) (Lib.frozen_of_heap hb 0)) ?_
  rintro e w' ⟨rfl,rfl⟩
  exact ⟨_,rfl,rfl,hb.setCell 0 _,Fr.setCell w b 0 _⟩
 ·refine go mixed Tryz.func99 Tryz.call99 rfl (Tr.e99 _) ?_
  refine r_ld (hb.cell rfl) ?_
  refine r_ld (hb.cell rfl) ?_
  obtain ⟨j,hj,_⟩:=Option.map_eq_some_iff.1 Sh.Builder_Extra_169.toX72.sizeBuilder
  exact r_neqp Tryz.underlying109 hj (r_ret ⟨rfl,hb,Fr.refl _ _⟩)
theorem WriteString_t {base b:Nat} {v:Value} {l:Bs} (h:Bd base w b v l) (s:Bs) (hl:l.length+s.length≤big) (hb0:base≤w.heap.size):Cz Tryz.prog 60 [Pt b 0,Tx s] w
  (λ r w'=>r=.tuple #[I s.length,.nilIface]∧∃ v',Bd base w' b v' (l++s)∧Fr (b :: v.ownBlock.toList) w w'∧∀ q∈v'.ownBlock.toList,q∈v.ownBlock.toList∨w.heap.size≤q) Z:=by
 refine go mixed Tryz.func60 Tryz.call60 rfl (Tr.e60 _ _) ?_
 refine r_call (copyCheck_t h) ?_
 rintro _ w1 ⟨rfl,hb1,f1⟩
 have hn:∀ q∈v.ownBlock.toList,q≠b:=λ q hq e=>h.nb (by subst e;simpa using hq)
 refine r_ld (hb1.cell rfl) ?_
 refine r_appT Tryz.underlying48 Tryz.underlying9 (by kernel_rfl) (own_f h.ow f1 (λ q hq=>by simpa using hn q hq)) hl (Nat.le_trans hb0 f1.size) (λ v' w2 ho f2 hq2=>?_)
 have hbw:b < w.heap.size:=let ⟨_,_,hb⟩:=h.bl;hb.lt
 have hn2:∀ q∈v'.ownBlock.toList,q≠b:=λ q hq=>by
  rcases hq2 q hq with h1 | h1
  ·exact hn q h1
  ·have:=f1.size;omega
 obtain ⟨X,c,rfl⟩:∃ X c,v'=.slice X (l++s).length c:=by
  rcases ho.2 with ⟨e,h0⟩ | ⟨g,cap,cur,e,_⟩
  ·exact ⟨none,0,by rw [e,h0]⟩
  ·exact ⟨_,_,e⟩
 refine r_st1 (hb1.fr f2 (λ hq=>hn b hq rfl)) Tryz.sizeOf48 (λ w3 hb3 f3=>?_)
 refine r_tlen Tryz.underlying9 ?_
 refine r_ret ⟨rfl,_,⟨⟨_,.inr rfl,hb3⟩,own_f ho f3 (λ q hq=>by simpa using hn2 q hq),λ e=>hn2 b (by rw [e];simp) rfl,h.le⟩,?_,λ q hq=>?_⟩
 ·exact ((f1.mono (by simp)).trans_new (f2.mono (λ q hq=>by simp [hq])) (λ q hq=>.inl hq)).trans (f3.mono (by simp))
 ·rcases hq2 q hq with h1 | h1
  ·exact .inl h1
  ·exact .inr (Nat.le_trans f1.size h1)
theorem Len_t {base b:Nat} {v:Value} {l:Bs} (h:Bd base w b v l):Cz Tryz.prog 62 [Pt b 0] w (λ r w'=>r=I l.length∧w'=w) Z:=by
 obtain ⟨p,hp,hb⟩:=h.bl
 have hB:Lib.IsBuilder 111 5 base b (Lib.byteCells l) w:=by
  have ho:w.ownsRow base 5 1 v (Lib.byteCells l).length (Lib.byteCells l):=by rw [Lib.byteCells_length];exact h.ow
  rcases hp with rfl | rfl
  ·exact .inl ⟨h.le,v,hb,ho,h.nb⟩
  ·exact .inr ⟨h.le,v,hb,ho,h.nb⟩
 refine cz_of Tryz.call62 (Sh.Builder_Len base b _ w hB) ?_
 rintro e w' ⟨rfl,rfl⟩
 exact ⟨_,rfl,by rw [Lib.byteCells_length],rfl⟩
theorem fr_freeze {g n:Nat}:Fr [g] w (w.freeze ⟨g,0,none⟩ n):=by
 unfold World.freeze
 split
 ·exact (Fr.refl [] w).of0
 ·refine ⟨rfl,rfl,rfl,by simp,λ k hk hn=>?_⟩
  simp only [Array.getElem?_modify]
  rw [if_neg (by simp at hn;omega)]
theorem String_t {base b:Nat} {v:Value} {l:Bs} (h:Bd base w b v l):Cz Tryz.prog 63 [Pt b 0] w (λ r w'=>r=Tx l∧Fr v.ownBlock.toList w w') Z:=by
 refine go mixed Tryz.func63 Tryz.call63 rfl (Tr.e63 _) ?_
 obtain ⟨p,hp,hb⟩:=h.bl
 refine r_dr (λ w1 f1=>?_)
 have hb1:=hb.fr0 f1
 have ho:=own_f h.ow f1 (by simp)
 refine r_ld (hb1.cell rfl) ?_
 refine r_ld (hb1.cell rfl) ?_
 rcases ho.2 with ⟨rfl,h0⟩ | ⟨g,cap,cur,rfl,hbg,hg,hnc,hcm,hcs,htake⟩
 ·obtain rfl:l=[]:=by simpa using h0
  refine ⟨.pointer none,w1,rfl,?_⟩
  refine r_chk (hb1.cell rfl) ?_
  exact ⟨_,_,Lib.run_unsafeString_none w1 _ _ _ none,r_ret ⟨rfl,f1.of0⟩⟩
 ·have hsh:w1.shape? g=some (5,cur.size):=by simp [World.shape?,hg]
  by_cases hl0:l=[]
  ·subst hl0
   by_cases hc0:cap=0
   ·subst hc0
    have f2:Fr [] w1 (w1.alloc (.view ⟨g,0,none⟩ 5)):=Fr.alloc _ _
    refine ⟨_,_,Lib.run_unsafeSliceData_zero w1 _ _ _ Tryz.underlying161 ⟨g,0,none⟩ 0 _ hsh,?_⟩
    refine r_chk ((hb1.fr0 f2).cell rfl) ?_
    exact ⟨_,_,Lib.run_unsafeString_none _ _ _ _ _,r_ret ⟨rfl,(f1.trans f2).of0⟩⟩
   ·refine ⟨_,_,Lib.run_unsafeSliceData_row w1 _ _ _ _ _ hc0,?_⟩
    refine r_chk (hb1.cell rfl) ?_
    exact ⟨_,_,Lib.run_unsafeString_none _ _ _ _ _,r_ret ⟨rfl,f1.of0⟩⟩
  ·have hll:l.length≠0:=by simpa using hl0
   refine ⟨_,_,Lib.run_unsafeSliceData_row w1 _ _ _ _ _ (by omega),?_⟩
   refine r_chk (hb1.cell rfl) ?_
   refine ⟨_,_,Lib.run_unsafeString_row w1 161 _ _ 5 Tryz.underlying161 (by kernel_rfl) g cur.size hsh l hl0 (by omega) (by unfold maxLen at hcm;omega) (λ j x hx=>?_),r_ret ⟨rfl,?_⟩⟩
   ·exact ho.cells (g:=g) rfl j (.int .u8 x.toNat) (by simp [Lib.byteCells,hx])
   ·have f2:=fr_freeze (w:=w1) (g:=g) (n:=l.length)
    exact f1.of0.trans (f2.mono (by simp [Value.ownBlock]))
theorem Bd.new {b:Nat} {base:Nat} (hb:Blk w b 111 [.pointer none,.slice none 0 0]) (hle:base≤b):Bd base w b (.slice none 0 0) []:=
 ⟨⟨_,.inl rfl,hb⟩,own_nil base 5 1,by simp [Value.ownBlock],hle⟩
end
end Go.Proofs.YtppodgdhdddfkaaGreatDoor.Sg
set_option linter.unusedVariables false
set_option linter.unusedSimpArgs false
namespace Go.Proofs.YtppodgdhdddfkaaGreatDoor.Sg
open Go Go.RowKit Go.Proofs.YtppodgdhdddfkaaGreatDoor.Sx
open Go.Proofs.YtppodgdhdddfkaaGreatDoor.Bi (mixed take_s)
section
variable {Z:ZP} {w:World}
def num (n:Int):Bs:=32 :: Lib.itoa n
def nums (l:List Int):Bs:=l.flatMap num
def opB (b:Bool):Bs:=if b=true then [32,111,112,101,110,115] else []
theorem itoa_len (n:Int) (h:in64 n):(Lib.itoa n).length≤21:=by
 obtain ⟨h1,h2⟩:=h
 unfold Lib.itoa
 split
 ·have:=Lib.nDigits_le20 n.natAbs (by omega)
  rw [List.length_cons,Lib.decDigits_length];omega
 ·have:=Lib.nDigits_le20 n.toNat (by omega)
  rw [Lib.decDigits_length];omega
theorem num_len (n:Int) (h:in64 n):(num n).length≤22:=by have:=itoa_len n h;simp [num];omega
theorem nums_len:∀ (l:List Int),(∀ n∈l,in64 n)→(nums l).length≤22 * l.length:=by
 intro l
 induction l with
 | nil=>intro _;simp [nums]
 | cons n r ih =>
  intro h
  have h1:=num_len n (h n (by simp))
  have h2:=ih (λ m hm=>h m (by simp [hm]))
  simp [nums] at h2 ⊢
  omega
theorem nums_app (a b:List Int):nums (a++b)=nums a++nums b:=by simp [nums]
theorem line_t {v:Value} {l:List Int} (wd:Bs) (hv:Sl (rI .i64) w v l) (hn:∀ n∈l,in64 n) (hl:l.length≤100000) (hw:wd.length≤100000) (G:GW w):Cz Tryz.prog 144 [Tx wd,v] w (λ r w'=>r=Tx (wd++nums l)∧Fr [] w w') Z:=by
 obtain ⟨X,c,rfl,hc,_,hr⟩:=hv
 refine go mixed Tryz.func144 Tryz.call144 rfl (Tr.e144 _ _) ?_
 refine r_loop (λ (i:Nat)=>[I (i:Int),Tx (wd++nums (l.take i))]) (λ i w'=>i≤l.length∧Fr [] w w') (λ i=>l.length-i) 0 ⟨Nat.zero_le _,Fr.refl _ _⟩ (by simp [nums]) ?_
 rintro i w1 ⟨hi,F⟩
 refine r_if (λ h=>?_) (λ h=>?_)
 ·obtain ⟨y,hy⟩:=gt (xs:=l) (j:=i) (by omega)
  obtain ⟨ad,es,rfl,rd,e3⟩:=(hr.up F) i y hy
  obtain rfl:=e3
  have hy64:=hn y (List.mem_of_getElem? hy)
  refine r_ob ⟨by omega,by omega⟩ ?_
  refine r_ld (Cf.cell_int rd) ?_
  refine r_call (Itoa_t y hy64 (G.up F).t) ?_
  rintro _ w2 ⟨rfl,f2⟩
  have h1:=itoa_len y hy64
  have h2:=nums_len (l.take i) (λ n h=>hn n (List.mem_of_mem_take h))
  rw [List.length_take] at h2
  refine r_cat (a:=[32]) (by simp;omega) ?_
  refine r_cat (by simp;omega) ?_
  refine r_ar (by omega) ?_
  refine r_ag (i+1) ⟨by omega,F.trans f2⟩ (by omega) ?_
  rw [take_s hy,nums_app]
  simp [nums,num]
 ·refine r_brk (r_ret ⟨?_,F⟩)
  have:i=l.length:=by omega
  show Tx (wd++nums (l.take i))=_
  rw [this,List.take_length]
theorem opens_t (b:Bool):Cz Tryz.prog 146 [.bool b] w (λ r w'=>r=Tx (opB b)∧w'=w) Z:=by
 refine go mixed Tryz.func146 Tryz.call146 rfl (Tr.e146 _) ?_
 cases b<;>exact r_ret ⟨rfl,rfl⟩
end
end Go.Proofs.YtppodgdhdddfkaaGreatDoor.Sg
