import Derived.Test.YtppodgdhdddfkaaGreatDoorRows
import Derived.Test.YtppodgdhdddfkaaGreatDoorCards
import Derived.Test.YtppodgdhdddfkaaGreatDoorTie
import Derived.SevenTiedAt
import Derived.LaidLaws
import Derived.LaidHandle
import Derived.Test.YtppodgdhdddfkaaGreatDoorQNd
import Derived.Test.YtppodgdhdddfkaaGreatDoorQMz
import Derived.Test.YtppodgdhdddfkaaGreatDoorQRd
import Derived.Lay
import Derived.Test.YtppodgdhdddfkaaGreatDoorQMa
import Derived.WalkKit
import Derived.ProofKit
import Derived.OpenShut
import Derived.ShutString
import Derived.ChangeOld
import Derived.ChangeSame
import Derived.ChangeVars
import Derived.JoinedOf
import Derived.Below
import Derived.SizedLaws
import Derived.Deep.Slices
import Derived.Deep.Strs
import Derived.Carry
set_option linter.unusedVariables false
namespace Go.Proofs.YtppodgdhdddfkaaGreatDoor.LawScriptBack
open Go Go.ChangeShapes Go.WideShapes Go.ChangeAt Go.RowKit Go.Deep Go.Proofs.YtppodgdhdddfkaaGreatDoor.Sx
open Go.ChangeMaps (open_string shut_string)
theorem own:ownKnob Tryz.prog.godebug=none:=by kernel_rfl
theorem laidOut:laidOutB Tryz.prog=true:=by kernel_rfl
abbrev laidL:List (String × DataW Unit):=[("math/bits.deBruijn32tab",Rows.laid_math_bits_deBruijn32tab),("math/bits.deBruijn64tab",Rows.laid_math_bits_deBruijn64tab),("internal/strconv.uint64pow10",Rows.laid_internal_strconv_uint64pow10),("unicode/utf8.acceptRanges",Rows.laid_unicode_utf8_acceptRanges),("strconv.ErrRange",Rows.laid_strconv_ErrRange),("strconv.ErrSyntax",Rows.laid_strconv_ErrSyntax),("rampart/wire.handlePart",Rows.laid_rampart_wire_handlePart),("rampart/wire.payloadPart",Rows.laid_rampart_wire_payloadPart),("rampart/script.digits",Rows.laid_rampart_script_digits),("unicode/utf8.first",Rows.laid_unicode_utf8_first)]
noncomputable def laidWorld (os:Os):World:=World.laidAll Tryz.prog os laidL
set_option maxRecDepth 100000 in
theorem laid_met (os:Os):laidMetH Tryz.prog laidL ((laidWorld os).forCall (λ _ _=>0) ⟨#[],#[.agg #[.slice none 0 0,.slice none 0 0,.slice none 0 0,.slice none 0 0,.slice none 0 0,.int .i64 0,.int .i64 0,.int .i64 0],.slice none 0 0,.string ⟨#[]⟩],[]⟩).memory:=
 show laidMet Tryz.prog laidL _ from laidMet_laidAll _ (by kernel_rfl) (by kernel_rfl)
theorem glb_of_laid {W:World} (h:laidMetH Tryz.prog laidL W) (hs:W.ShapedOpen Tryz.prog):Sc.SW W:=Sd.sw_of h hs
set_option maxRecDepth 100000 in
theorem lifted (os:Os) (started:os.Started) (H:Type) (enc:TypeId × Value→H) :
  ReturnsInHanded {} Tryz.checked os 7 .any (λ w args=>(Rows.scriptBackSpec.pre enc Tryz.prog Tryz.f7 [] false w args∧laidMetH Tryz.prog laidL w)∧sizedMet enc Tryz.prog Tryz.f7 (OpenSpec.ofChange Rows.scriptBackSpec) false w args)
   (Rows.scriptBackSpec.post enc Tryz.prog Tryz.f7 false true false false):=by
 refine Cw.handed_laid (C:=Tryz.checked) (X:=λ w _=>laidMetH Tryz.prog laidL w) (λ _ _ _ hh h=>h.of_heap hh) own started (by kernel_rfl) Tryz.func7
  (ChangeSpec.witness_at (enc:=enc) (C:=Tryz.checked) (os:=os) (X:=λ w _=>laidMetH Tryz.prog laidL w) false (laidWorld os) #[.agg #[.slice none 0 0,.slice none 0 0,.slice none 0 0,.slice none 0 0,.slice none 0 0,.int .i64 0,.int .i64 0,.int .i64 0],.slice none 0 0,.string ⟨#[]⟩] 8 (World.laidAll_os _ _ _) (by kernel_rfl) (by kernel_rfl) (by kernel_rfl) (by kernel_rfl) (by kernel_rfl) (laid_met os)) ?_
 intro W base args ds gs before hval0 hW hcnd hsz0 hL hSh
 have hval:∀ (j:Nat) t v,Tryz.f7.params[j]? = some t→args[j]? = some v→Value.okWide Tryz.prog W .any base t v:=hval0
 have hW':=hW
 obtain ⟨p,q,hA0,hV,rfl,hfz,hnd⟩:=hW
 have hA:DataW.TrodAll enc Tryz.prog W 0 (λ _=>true) true Tryz.f7.params.toList args.toList ds p:=hA0
 rw [Tryz.params7] at hA hval
 obtain ⟨v0,vs0,d0,ds0,p0,q0,hargs,rfl,rfl,h0,r0⟩:=trodAll_cons hA
 obtain ⟨v1,vs1,d1,ds1,p1,q1,rfl,rfl,rfl,h1,r1⟩:=trodAll_cons r0
 obtain ⟨v2,vs2,d2,ds2,p2,q2,rfl,rfl,rfl,h2,r2⟩:=trodAll_cons r1
 obtain ⟨rfl,rfl,rfl⟩:=trodAll_nil r2
 obtain rfl:args=#[v0,v1,v2]:=by cases args;simp_all
 obtain ⟨rfl,rfl⟩:=trodVars_none hV
 obtain ⟨a0,rfl,hs0⟩:=okWide_struct Tryz.underlying29 (hval 0 29 v0 rfl rfl)
 have k0:=h0
 have lt0:∀ x∈p0,x.block < W.heap.size:=by obtain ⟨m,hm⟩:=k0;exact DataW.trod_lt m _ _ _ hm
 have okw0:okB (d0.weights Tryz.prog 29):=λ n hn=>of_decide_eq_true (List.all_eq_true.1 hsz0 n (DataW.weights_mem_each (j:=0) (t:=29) (d:=d0) (by kernel_rfl) rfl n hn))
 obtain ⟨a0⟩:=a0
 obtain ⟨x0,hx0,wf0⟩:∃ x,rConf.r W a0 x∧Rd.wf29 x:=by
  obtain ⟨fuel,hf⟩:=h0
  exact Rd.rd29.rd hf okw0
 obtain ⟨a1,len1,cap1,rfl⟩:=okWide_slice Tryz.underlying30 (hval 1 30 v1 rfl rfl)
 have k1:=h1
 have lt1:∀ x∈p1,x.block < W.heap.size:=by obtain ⟨m,hm⟩:=k1;exact DataW.trod_lt m _ _ _ hm
 have okw1:okB (d1.weights Tryz.prog 30):=λ n hn=>of_decide_eq_true (List.all_eq_true.1 hsz0 n (DataW.weights_mem_each (j:=1) (t:=30) (d:=d1) (by kernel_rfl) rfl n hn))
 obtain ⟨x1,hx1,wf1⟩:∃ x,(rL rTick).r W [.slice a1 len1 cap1] x∧Rd.wf30 x:=by
  obtain ⟨fuel,hf⟩:=h1
  exact Rd.rd30.rd hf okw1
 obtain ⟨_,_,e1,qc1,qb1,qr1⟩:=hx1
 cases e1
 obtain ⟨a2,rfl⟩:=okWide_string Tryz.underlying9 (hval 2 9 v2 rfl rfl)
 have k2:=h2
 have lt2:∀ x∈p2,x.block < W.heap.size:=by obtain ⟨m,hm⟩:=k2;exact DataW.trod_lt m _ _ _ hm
 have okw2:okB (d2.weights Tryz.prog 9):=λ n hn=>of_decide_eq_true (List.all_eq_true.1 hsz0 n (DataW.weights_mem_each (j:=2) (t:=9) (d:=d2) (by kernel_rfl) rfl n hn))
 obtain ⟨x2,hx2,wf2⟩:∃ x,rS.r W [.string a2] x∧Rd.wf9 x:=by
  obtain ⟨fuel,hf⟩:=h2
  exact Rd.rd9.rd hf okw2
 cases hx2
 clear hA0 hval0
 refine Calls.mono (Sc.back26_c W (glb_of_laid hL hSh) hx0 wf0 qr1 qc1 qb1 wf1 a2 wf2) λ e W' ⟨v,he,hv,F⟩=>?_
 subst hv
 subst he
 have bel:=F.below
 exact ⟨_,rfl,_,_,_,[],_,[],hW',trodAll_mk1 (shut_bool Tryz.underlying4 _),(trodAll_cons_mk (Below.trod laidOut (by kernel_rfl) (of_decide_eq_true (by kernel_rfl)) k0 bel lt0) (trodAll_cons_mk (Below.trod laidOut (by kernel_rfl) (of_decide_eq_true (by kernel_rfl)) k1 bel lt1) (trodAll_cons_mk (Below.trod laidOut (by kernel_rfl) (of_decide_eq_true (by kernel_rfl)) k2 bel lt2) trodAll_mk0))),rfl,bel.frame _,λ h=>by cases h⟩
theorem over:Rows.scriptBackRow.holds Tryz.pinned (OpenSpec.ofChange Rows.scriptBackSpec):=
 OpenClaim.holds_of_wide 7 Tryz.f7 rfl rfl rfl rfl rfl rfl rfl ⟨rfl,rfl,rfl,rfl,rfl⟩ rfl rfl rfl rfl rfl (by kernel_rfl) Tryz.func7 (by kernel_rfl)
  (of_decide_eq_true (by kernel_rfl)) (by unfold Func.isWrapper;first | (rw [if_pos (by decide +kernel)];kernel_rfl) | (rw [if_neg (by decide +kernel)];exact ⟨rfl,rfl⟩))
  (λ os started H enc _=>lifted os started H enc)
theorem proved:Rows.ScriptBackCardSaid:=
 Claim7.holds_tied_plain_at .later [] [.data,.data,.data,.data,.sentinel,.sentinel,.wider,.wider,.data,.pinned] true (true, "dd9cfe12eea3b37c2d30be06044852aa662d7629b813a749e39b9c123e243a72") true
  over (λ _ h=>by cases h) (by kernel_rfl) (λ _ h=>by cases h) scriptBack_row_tie rfl ⟨rfl,rfl⟩ (by kernel_rfl) rfl
  (λ f fn hf hfn=>by
   obtain rfl:f=7:=Option.some.inj ((show Tryz.prog.funcNamed "rampart/rampartlaw26.ScriptBack" = some 7 by kernel_rfl).symm.trans hf) |>.symm
   obtain rfl:fn=Tryz.f7:=(Option.some.inj (Tryz.func7.symm.trans hfn)).symm
   exact ⟨by kernel_rfl,λ j t ht=>by
    rw [Tryz.params7] at ht
    have hj:t=29∨t=30∨t=9:=by
     have:=List.mem_of_getElem? (l:=[29,30,9]) (i:=j) (by simpa using ht)
     simpa using this
    rcases hj with rfl | rfl | rfl
    ·exact (show Tryz.prog.wantsStandIn 29=false by kernel_rfl)
    ·exact (show Tryz.prog.wantsStandIn 30=false by kernel_rfl)
    ·exact (show Tryz.prog.wantsStandIn 9=false by kernel_rfl)⟩)
  (by kernel_rfl)
#print axioms proved
end Go.Proofs.YtppodgdhdddfkaaGreatDoor.LawScriptBack
namespace Go.Proofs.YtppodgdhdddfkaaGreatDoor
theorem scriptBack_holds:Rows.ScriptBackCardSaid:=LawScriptBack.proved
end Go.Proofs.YtppodgdhdddfkaaGreatDoor
