import Derived.Test.YtppodgdhdddfkaaGreatDoorRows
import Derived.Test.YtppodgdhdddfkaaGreatDoorCards
import Derived.Test.YtppodgdhdddfkaaGreatDoorTie
import Derived.SevenTiedAt
import Derived.LaidLaws
import Derived.LaidHandle
import Derived.Test.YtppodgdhdddfkaaGreatDoorQNb
import Derived.Test.YtppodgdhdddfkaaGreatDoorQMz
import Derived.Test.YtppodgdhdddfkaaGreatDoorQRd
import Derived.Lay
import Derived.Test.YtppodgdhdddfkaaGreatDoorQMa
import Derived.WalkKit
import Derived.ProofKit
import Derived.OpenShut
import Derived.ShutString
import Derived.ChangeOld
import Derived.ChangeSame
import Derived.ChangeVars
import Derived.JoinedOf
import Derived.Below
import Derived.SizedLaws
import Derived.Deep.Slices
import Derived.Deep.Strs
import Derived.Carry
set_option linter.unusedVariables false
namespace Go.Proofs.YtppodgdhdddfkaaGreatDoor.LawScriptMany
open Go Go.ChangeShapes Go.WideShapes Go.ChangeAt Go.RowKit Go.Deep Go.Proofs.YtppodgdhdddfkaaGreatDoor.Sx
open Go.ChangeMaps (open_string shut_string)
theorem own:ownKnob Tryz.prog.godebug=none:=by kernel_rfl
theorem laidOut:laidOutB Tryz.prog=true:=by kernel_rfl
abbrev laidL:List (String × DataW Unit):=[("math/bits.deBruijn32tab",Rows.laid_math_bits_deBruijn32tab),("math/bits.deBruijn64tab",Rows.laid_math_bits_deBruijn64tab),("internal/strconv.uint64pow10",Rows.laid_internal_strconv_uint64pow10),("unicode/utf8.acceptRanges",Rows.laid_unicode_utf8_acceptRanges),("strconv.ErrRange",Rows.laid_strconv_ErrRange),("strconv.ErrSyntax",Rows.laid_strconv_ErrSyntax),("rampart/wire.handlePart",Rows.laid_rampart_wire_handlePart),("rampart/wire.payloadPart",Rows.laid_rampart_wire_payloadPart),("rampart/script.digits",Rows.laid_rampart_script_digits),("unicode/utf8.first",Rows.laid_unicode_utf8_first)]
noncomputable def laidWorld (os:Os):World:=World.laidAll Tryz.prog os laidL
set_option maxRecDepth 100000 in
theorem laid_met (os:Os):laidMetH Tryz.prog laidL ((laidWorld os).forCall (λ _ _=>0) ⟨#[],#[.int .u8 0],[]⟩).memory:=
 show laidMet Tryz.prog laidL _ from laidMet_laidAll _ (by kernel_rfl) (by kernel_rfl)
theorem glb_of_laid {W:World} (h:laidMetH Tryz.prog laidL W) (hs:W.ShapedOpen Tryz.prog):Sc.SW W:=Sd.sw_of h hs
set_option maxRecDepth 100000 in
theorem lifted (os:Os) (started:os.Started) (H:Type) (enc:TypeId × Value→H) :
  ReturnsInHanded {} Tryz.checked os 6 .any (λ w args=>(Rows.scriptManySpec.pre enc Tryz.prog Tryz.f6 [] false w args∧laidMetH Tryz.prog laidL w)∧sizedMet enc Tryz.prog Tryz.f6 (OpenSpec.ofChange Rows.scriptManySpec) false w args)
   (Rows.scriptManySpec.post enc Tryz.prog Tryz.f6 false true false false):=by
 refine Cw.handed_laid (C:=Tryz.checked) (X:=λ w _=>laidMetH Tryz.prog laidL w) (λ _ _ _ hh h=>h.of_heap hh) own started (by kernel_rfl) Tryz.func6
  (ChangeSpec.witness_at (enc:=enc) (C:=Tryz.checked) (os:=os) (X:=λ w _=>laidMetH Tryz.prog laidL w) false (laidWorld os) #[.int .u8 0] 8 (World.laidAll_os _ _ _) (by kernel_rfl) (by kernel_rfl) (by kernel_rfl) (by kernel_rfl) (by kernel_rfl) (laid_met os)) ?_
 intro W base args ds gs before hval0 hW hcnd hsz0 hL hSh
 have hval:∀ (j:Nat) t v,Tryz.f6.params[j]? = some t→args[j]? = some v→Value.okWide Tryz.prog W .any base t v:=hval0
 have hW':=hW
 obtain ⟨p,q,hA0,hV,rfl,hfz,hnd⟩:=hW
 have hA:DataW.TrodAll enc Tryz.prog W 0 (λ _=>true) true Tryz.f6.params.toList args.toList ds p:=hA0
 rw [Tryz.params6] at hA hval
 obtain ⟨v0,vs0,d0,ds0,p0,q0,hargs,rfl,rfl,h0,r0⟩:=trodAll_cons hA
 obtain ⟨rfl,rfl,rfl⟩:=trodAll_nil r0
 obtain rfl:args=#[v0]:=by cases args;simp_all
 obtain ⟨rfl,rfl⟩:=trodVars_none hV
 obtain ⟨a0,rfl,rfl,rfl,w0⟩:=open_int Tryz.underlying5 (hval 0 5 v0 rfl rfl) h0
 clear hA0 hval0
 refine Calls.mono (Sc.many_c W (glb_of_laid hL hSh) a0 w0) λ e W' ⟨v,he,hv,F⟩=>?_
 subst hv
 subst he
 have bel:=F.below
 exact ⟨_,rfl,_,_,_,[],_,[],hW',trodAll_mk1 (shut_bool Tryz.underlying4 _),(trodAll_cons_mk (shut_int Tryz.underlying5 w0) trodAll_mk0),rfl,bel.frame _,λ h=>by cases h⟩
theorem over:Rows.scriptManyRow.holds Tryz.pinned (OpenSpec.ofChange Rows.scriptManySpec):=
 OpenClaim.holds_of_wide 6 Tryz.f6 rfl rfl rfl rfl rfl rfl rfl ⟨rfl,rfl,rfl,rfl,rfl⟩ rfl rfl rfl rfl rfl (by kernel_rfl) Tryz.func6 (by kernel_rfl)
  (of_decide_eq_true (by kernel_rfl)) (by unfold Func.isWrapper;first | (rw [if_pos (by decide +kernel)];kernel_rfl) | (rw [if_neg (by decide +kernel)];exact ⟨rfl,rfl⟩))
  (λ os started H enc _=>lifted os started H enc)
theorem proved:Rows.ScriptManyCardSaid:=
 Claim7.holds_tied_plain_at .later [] [.data,.data,.data,.data,.sentinel,.sentinel,.wider,.wider,.data,.pinned] true (true, "dd9cfe12eea3b37c2d30be06044852aa662d7629b813a749e39b9c123e243a72") true
  over (λ _ h=>by cases h) (by kernel_rfl) (λ _ h=>by cases h) scriptMany_row_tie rfl ⟨rfl,rfl⟩ (by kernel_rfl) rfl
  (λ f fn hf hfn=>by
   obtain rfl:f=6:=Option.some.inj ((show Tryz.prog.funcNamed "rampart/rampartlaw26.ScriptMany" = some 6 by kernel_rfl).symm.trans hf) |>.symm
   obtain rfl:fn=Tryz.f6:=(Option.some.inj (Tryz.func6.symm.trans hfn)).symm
   exact ⟨by kernel_rfl,λ j t ht=>by
    rw [Tryz.params6] at ht
    have hj:t=5:=by
     have:=List.mem_of_getElem? (l:=[5]) (i:=j) (by simpa using ht)
     simpa using this
    rcases hj with rfl
    ·exact (show Tryz.prog.wantsStandIn 5=false by kernel_rfl)⟩)
  (by kernel_rfl)
#print axioms proved
end Go.Proofs.YtppodgdhdddfkaaGreatDoor.LawScriptMany
namespace Go.Proofs.YtppodgdhdddfkaaGreatDoor
theorem scriptMany_holds:Rows.ScriptManyCardSaid:=LawScriptMany.proved
end Go.Proofs.YtppodgdhdddfkaaGreatDoor
