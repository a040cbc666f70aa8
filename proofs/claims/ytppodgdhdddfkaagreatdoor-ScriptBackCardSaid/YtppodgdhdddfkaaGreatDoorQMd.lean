import Derived.Test.YtppodgdhdddfkaaGreatDoorQMc
import Derived.Maps.Keyed
import Derived.Carry
import Derived.Test.YtppodgdhdddfkaaGreatDoorQMa
import Derived.SizedLaws
set_option linter.unusedVariables false
set_option linter.unusedSimpArgs false
namespace Go.Proofs.YtppodgdhdddfkaaGreatDoor.Sx
open Go Go.RowKit
structure GLane where
 tenant:Int
 credit:Int
 opens:Bool
 deriving DecidableEq
def eLane (x:GLane):List Value:=[.int .i64 x.tenant,.int .i64 x.credit,.bool x.opens]
theorem nLane (x:GLane):(eLane x).length=3:=rfl
theorem iLane (x:GLane):∀ v∈eLane x,v.oneCell'=true:=by intro v hv;simp only [eLane,List.mem_cons,List.not_mem_nil,or_false] at hv;rcases hv with rfl | rfl | rfl<;>rfl
def rLane:Rl GLane:=rE eLane 3 nLane iLane
structure GReceiver where
 tenant:Int
 opens:Bool
 deriving DecidableEq
def eReceiver (x:GReceiver):List Value:=[.int .i64 x.tenant,.bool x.opens]
theorem nReceiver (x:GReceiver):(eReceiver x).length=2:=rfl
theorem iReceiver (x:GReceiver):∀ v∈eReceiver x,v.oneCell'=true:=by intro v hv;simp only [eReceiver,List.mem_cons,List.not_mem_nil,or_false] at hv;rcases hv with rfl | rfl<;>rfl
def rReceiver:Rl GReceiver:=rE eReceiver 2 nReceiver iReceiver
structure GChannel where
 label:Int
 lanes:List GLane
 receivers:List GReceiver
 deriving DecidableEq
def rChannel:Rl GChannel:=((rP (rI .i64) (rP (rL rLane) (rL rReceiver)))).via λ x=>(x.label,x.lanes,x.receivers)
theorem oChannel {w:World} {cs:List Value} {x:GChannel} (h:rChannel.r w cs x):∃ A1 c1 A2 c2,cs=[.int .i64 x.label,.slice A1 x.lanes.length c1,.slice A2 x.receivers.length c2]∧(x.lanes.length≤c1∧x.lanes.length≤big∧Rw rLane w A1 x.lanes)∧(x.receivers.length≤c2∧x.receivers.length≤big∧Rw rReceiver w A2 x.receivers):=by
 obtain ⟨_,_,rfl,h0,⟨_,_,rfl,⟨A1,c1,h1,k1⟩,⟨A2,c2,h2,k2⟩⟩⟩:=h
 obtain rfl:=h0;obtain rfl:=h1;obtain rfl:=h2
 exact ⟨A1,c1,A2,c2,rfl,k1,k2⟩
theorem mChannel {w:World} {x:GChannel} {A1 A2:Option Addr} {c1 c2:Nat} (k1:(x.lanes.length≤c1∧x.lanes.length≤big∧Rw rLane w A1 x.lanes)) (k2:(x.receivers.length≤c2∧x.receivers.length≤big∧Rw rReceiver w A2 x.receivers)):rChannel.r w [.int .i64 x.label,.slice A1 x.lanes.length c1,.slice A2 x.receivers.length c2] x:=⟨[.int .i64 x.label],[.slice A1 x.lanes.length c1,.slice A2 x.receivers.length c2],rfl,rfl,⟨[.slice A1 x.lanes.length c1],[.slice A2 x.receivers.length c2],rfl,⟨A1,c1,rfl,k1⟩,⟨A2,c2,rfl,k2⟩⟩⟩
structure GGate where
 frm:Int
 til:Int
 room:Int
 deriving DecidableEq
def eGate (x:GGate):List Value:=[.int .i64 x.frm,.int .i64 x.til,.int .i64 x.room]
theorem nGate (x:GGate):(eGate x).length=3:=rfl
theorem iGate (x:GGate):∀ v∈eGate x,v.oneCell'=true:=by intro v hv;simp only [eGate,List.mem_cons,List.not_mem_nil,or_false] at hv;rcases hv with rfl | rfl | rfl<;>rfl
def rGate:Rl GGate:=rE eGate 3 nGate iGate
structure GTenant where
 label:Int
 quota:Int
 deriving DecidableEq
def eTenant (x:GTenant):List Value:=[.int .i64 x.label,.int .i64 x.quota]
theorem nTenant (x:GTenant):(eTenant x).length=2:=rfl
theorem iTenant (x:GTenant):∀ v∈eTenant x,v.oneCell'=true:=by intro v hv;simp only [eTenant,List.mem_cons,List.not_mem_nil,or_false] at hv;rcases hv with rfl | rfl<;>rfl
def rTenant:Rl GTenant:=rE eTenant 2 nTenant iTenant
structure GConf where
 flows:List Int
 tenants:List GTenant
 channels:List GChannel
 gates:List GGate
 frame:List Int
 budget:Int
 requests:Int
 pending:Int
 deriving DecidableEq
def rConf:Rl GConf:=((rP (rL (rI .u64)) (rP (rL rTenant) (rP (rL rChannel) (rP (rL rGate) (rP (rL (rI .i64)) (rP (rI .i64) (rP (rI .i64) (rI .i64))))))))).via λ x=>(x.flows,x.tenants,x.channels,x.gates,x.frame,x.budget,x.requests,x.pending)
theorem oConf {w:World} {cs:List Value} {x:GConf} (h:rConf.r w cs x):∃ A0 c0 A1 c1 A2 c2 A3 c3 A4 c4,cs=[.slice A0 x.flows.length c0,.slice A1 x.tenants.length c1,.slice A2 x.channels.length c2,.slice A3 x.gates.length c3,.slice A4 x.frame.length c4,.int .i64 x.budget,.int .i64 x.requests,.int .i64 x.pending]∧(x.flows.length≤c0∧x.flows.length≤big∧Rw (rI .u64) w A0 x.flows)∧(x.tenants.length≤c1∧x.tenants.length≤big∧Rw rTenant w A1 x.tenants)∧(x.channels.length≤c2∧x.channels.length≤big∧Rw rChannel w A2 x.channels)∧(x.gates.length≤c3∧x.gates.length≤big∧Rw rGate w A3 x.gates)∧(x.frame.length≤c4∧x.frame.length≤big∧Rw (rI .i64) w A4 x.frame):=by
 obtain ⟨_,_,rfl,⟨A0,c0,h0,k0⟩,⟨_,_,rfl,⟨A1,c1,h1,k1⟩,⟨_,_,rfl,⟨A2,c2,h2,k2⟩,⟨_,_,rfl,⟨A3,c3,h3,k3⟩,⟨_,_,rfl,⟨A4,c4,h4,k4⟩,⟨_,_,rfl,h5,⟨_,_,rfl,h6,h7⟩⟩⟩⟩⟩⟩⟩:=h
 obtain rfl:=h0;obtain rfl:=h1;obtain rfl:=h2;obtain rfl:=h3;obtain rfl:=h4;obtain rfl:=h5;obtain rfl:=h6;obtain rfl:=h7
 exact ⟨A0,c0,A1,c1,A2,c2,A3,c3,A4,c4,rfl,k0,k1,k2,k3,k4⟩
theorem mConf {w:World} {x:GConf} {A0 A1 A2 A3 A4:Option Addr} {c0 c1 c2 c3 c4:Nat} (k0:(x.flows.length≤c0∧x.flows.length≤big∧Rw (rI .u64) w A0 x.flows)) (k1:(x.tenants.length≤c1∧x.tenants.length≤big∧Rw rTenant w A1 x.tenants)) (k2:(x.channels.length≤c2∧x.channels.length≤big∧Rw rChannel w A2 x.channels)) (k3:(x.gates.length≤c3∧x.gates.length≤big∧Rw rGate w A3 x.gates)) (k4:(x.frame.length≤c4∧x.frame.length≤big∧Rw (rI .i64) w A4 x.frame)):rConf.r w [.slice A0 x.flows.length c0,.slice A1 x.tenants.length c1,.slice A2 x.channels.length c2,.slice A3 x.gates.length c3,.slice A4 x.frame.length c4,.int .i64 x.budget,.int .i64 x.requests,.int .i64 x.pending] x:=⟨[.slice A0 x.flows.length c0],[.slice A1 x.tenants.length c1,.slice A2 x.channels.length c2,.slice A3 x.gates.length c3,.slice A4 x.frame.length c4,.int .i64 x.budget,.int .i64 x.requests,.int .i64 x.pending],rfl,⟨A0,c0,rfl,k0⟩,⟨[.slice A1 x.tenants.length c1],[.slice A2 x.channels.length c2,.slice A3 x.gates.length c3,.slice A4 x.frame.length c4,.int .i64 x.budget,.int .i64 x.requests,.int .i64 x.pending],rfl,⟨A1,c1,rfl,k1⟩,⟨[.slice A2 x.channels.length c2],[.slice A3 x.gates.length c3,.slice A4 x.frame.length c4,.int .i64 x.budget,.int .i64 x.requests,.int .i64 x.pending],rfl,⟨A2,c2,rfl,k2⟩,⟨[.slice A3 x.gates.length c3],[.slice A4 x.frame.length c4,.int .i64 x.budget,.int .i64 x.requests,.int .i64 x.pending],rfl,⟨A3,c3,rfl,k3⟩,⟨[.slice A4 x.frame.length c4],[.int .i64 x.budget,.int .i64 x.requests,.int .i64 x.pending],rfl,⟨A4,c4,rfl,k4⟩,⟨[.int .i64 x.budget],[.int .i64 x.requests,.int .i64 x.pending],rfl,rfl,⟨[.int .i64 x.requests],[.int .i64 x.pending],rfl,rfl,rfl⟩⟩⟩⟩⟩⟩⟩
structure GRequest where
 kind:Int
 a:Int
 rights:Int
 handle:Int
 payload:Int
 deriving DecidableEq
def eRequest (x:GRequest):List Value:=[.int .u8 x.kind,.int .u8 x.a,.int .u8 x.rights,.int .u32 x.handle,.int .u64 x.payload]
theorem iRequest (x:GRequest):∀ v∈eRequest x,v.oneCell'=true:=by intro v hv;simp only [eRequest,List.mem_cons,List.not_mem_nil,or_false] at hv;rcases hv with rfl | rfl | rfl | rfl | rfl<;>rfl
structure GReply where
 code:Int
 a:Int
 handle:Int
 payload:Int
 deriving DecidableEq
structure GSeen where
 tick:Int
 reply:GReply
 deriving DecidableEq
structure GTick where
 bytes:List (List Int)
 picks:List Int
 deriving DecidableEq
def rTick:Rl GTick:=((rP (rL (rL (rI .u8))) (rL (rI .i64)))).via λ x=>(x.bytes,x.picks)
theorem oTick {w:World} {cs:List Value} {x:GTick} (h:rTick.r w cs x):∃ A0 c0 A1 c1,cs=[.slice A0 x.bytes.length c0,.slice A1 x.picks.length c1]∧(x.bytes.length≤c0∧x.bytes.length≤big∧Rw (rL (rI .u8)) w A0 x.bytes)∧(x.picks.length≤c1∧x.picks.length≤big∧Rw (rI .i64) w A1 x.picks):=by
 obtain ⟨_,_,rfl,⟨A0,c0,h0,k0⟩,⟨A1,c1,h1,k1⟩⟩:=h
 obtain rfl:=h0;obtain rfl:=h1
 exact ⟨A0,c0,A1,c1,rfl,k0,k1⟩
theorem mTick {w:World} {x:GTick} {A0 A1:Option Addr} {c0 c1:Nat} (k0:(x.bytes.length≤c0∧x.bytes.length≤big∧Rw (rL (rI .u8)) w A0 x.bytes)) (k1:(x.picks.length≤c1∧x.picks.length≤big∧Rw (rI .i64) w A1 x.picks)):rTick.r w [.slice A0 x.bytes.length c0,.slice A1 x.picks.length c1] x:=⟨[.slice A0 x.bytes.length c0],[.slice A1 x.picks.length c1],rfl,⟨A0,c0,rfl,k0⟩,⟨A1,c1,rfl,k1⟩⟩
structure GFlow where
 frm:Int
 til:Int
 deriving DecidableEq
structure GStamp where
 tick:Int
 step:Int
 deriving DecidableEq
structure GCap where
 channel:Int
 rights:Int
 deriving DecidableEq
structure GCredit where
 room:Int
 spent:Int
 epoch:Int
 deriving DecidableEq
structure GRecord where
 stamp:GStamp
 gate:Int
 payload:Int
 deriving DecidableEq
structure GTicket where
 seq:Int
 epoch:Int
 deriving DecidableEq
structure GOp where
 number:Int
 req:GRequest
 next:Int
 channel:Int
 lane:Int
 ticket:GTicket
 payload:Int
 deriving DecidableEq
structure GSlot where
 n:Int
 gen:Int
 deriving DecidableEq
structure GLaneState where
 left:Int
 claimed:Int
 published:Int
 taken:Int
 held:Int
 epoch:Int
 deriving DecidableEq
structure GPlainLane where
 credit:Int
 twoWay:Bool
 left:Int
 claims:List Int
 next:Int
 epoch:Int
 deriving DecidableEq
structure GPlainMsg where
 lane:Int
 epoch:Int
 n:Int
 payload:Int
 deriving DecidableEq
structure GQueue where
 lanes:List GPlainLane
 q:List GPlainMsg
 deriving DecidableEq
structure GClaim where
 lane:Int
 n:Int
 epoch:Int
 deriving DecidableEq
structure GAsked where
 req:GRequest
 oK:Bool
 deriving DecidableEq
structure GEntry where
 grant:Bool
 a:Int
 handle:Int
 payload:Int
 deriving DecidableEq
structure GPend where
 room:Int
 next:Int
 ops:List GOp
 deriving DecidableEq
structure GTold where
 tenant:Int
 seen:GSeen
 deriving DecidableEq
structure GDeed where
 kind:Int
 lane:Int
 payload:Int
 frm:Int
 til:Int
 opn:Bool
 deriving DecidableEq
structure GBreach where
 kind:Int
 tick:Int
 tenant:Int
 deriving DecidableEq
structure GReport where
 ticks:Int
 views:List (List GSeen)
 released:List GRecord
 held:List Int
 free:List Int
 breach:GBreach
 deriving DecidableEq
end Go.Proofs.YtppodgdhdddfkaaGreatDoor.Sx
set_option linter.unusedVariables false
set_option linter.unusedSimpArgs false
namespace Go.Proofs.YtppodgdhdddfkaaGreatDoor.Sx
open Go Go.RowKit
def Off (S:List Nat) (φ:World→Prop) (w:World):Prop:=∀ w',Fr S w w'→φ w'
theorem Off.now {S:List Nat} {φ:World→Prop} {w:World} (h:Off S φ w):φ w:=h w ((Fr.refl [] w).mono (by simp))
theorem Off.go {S S' S2:List Nat} {φ:World→Prop} {w w':World} (h:Off S φ w) (f:Fr S' w w') (h1:∀ q∈S',q∈S∨w.heap.size≤q) (h2:∀ q∈S2,q∈S∨w.heap.size≤q):Off S2 φ w':=λ w2 f2=>h w2 ((((Fr.refl [] w).mono (by simp):Fr S w w).trans_new f h1).trans_new f2 h2)
theorem Rl.off {α:Type} (e:Rl α) {S:List Nat} {w0 w:World} {es:List Value} {x:α} (h:e.r w0 es x) (F:Fr [] w0 w) (hS:∀ q∈S,w0.heap.size≤q):Off S (λ w=>e.r w es x) w:=λ w' f=>e.up (F.trans_new f (λ q hq=>.inr (hS q hq))) h
def Or {α:Type} (e:Rl α) (ty base:Nat) (S:List Nat) (w:World) (v:Value) (xs:List α):Prop:=∃ cells,w.ownsRow base ty e.n v xs.length cells∧∀ (j:Nat) x,xs[j]? = some x→Off (v.ownBlock.toList++S) (λ w=>e.r w ((cells.drop (j * e.n)).take e.n) x) w
section
variable {α:Type} {e:Rl α} {ty base:Nat} {S:List Nat} {w w':World} {v:Value} {xs:List α}
theorem Or.nil:Or e ty base S w (.slice none 0 0) ([]:List α):=⟨[],own_nil base ty e.n,λ j x h=>by simp at h⟩
theorem Or.lt (h:Or e ty base S w v xs):∀ q∈v.ownBlock.toList,base≤q∧q < w.heap.size:=let ⟨_,h,_⟩:=h;own_lt h
theorem Or.up {S':List Nat} (h:Or e ty base S w v xs) (f:Fr S' w w') (h1:∀ q∈S',q∉v.ownBlock.toList) (h2:∀ q∈S',q∈S∨w.heap.size≤q):Or e ty base S w' v xs:=by
 obtain ⟨cells,ho,hx⟩:=h
 refine ⟨cells,own_f ho f (λ q hq hs=>h1 q hs hq),λ j x hj=>(hx j x hj).go f (λ q hq=>?_) (λ q hq=>.inl hq)⟩
 rcases h2 q hq with h | h
 ·exact .inl (List.mem_append.2 (.inr h))
 ·exact .inr h
theorem Or.fr0 (h:Or e ty base S w v xs) (f:Fr [] w w'):Or e ty base S w' v xs:=h.up f (by simp) (by simp)
theorem Or.row (h:Or e ty base S w v xs) (hb:xs.length≤big):Sl e w v xs:=by
 obtain ⟨cells,ho,hx⟩:=h
 have ho2:=ho
 obtain ⟨_,⟨rfl,e2⟩ | ⟨g,cap,cur,rfl,hg,hh,hn,hm,hs,ht⟩⟩:=ho
 ·have:xs=[]:=List.eq_nil_of_length_eq_zero e2
  subst this
  exact Sl.nil
 ·refine ⟨_,_,rfl,hn,hb,λ j x hj=>?_⟩
  have hr:=(hx j x hj).now
  have hl:=e.len hr
  have hB:Blk w g ty (cells++cur.toList.drop (xs.length * e.n)):=by
   unfold Blk
   rw [hh,← ht,List.take_append_drop]
  refine ⟨_,_,rfl,⟨hl,λ i u hi=>?_⟩,hr⟩
  have hi2:cells[j * e.n+i]? = some u:=by
   rw [List.getElem?_take] at hi
   split at hi
   ·rw [List.getElem?_drop] at hi;exact hi
   ·cases hi
  show w.cell? ⟨g,0+j * e.n+i,none⟩=some u
  rw [Nat.zero_add]
  exact hB.cell (by rw [List.getElem?_append_left (List.getElem?_eq_some_iff.1 hi2).1];exact hi2)
theorem Or.off {S':List Nat} (h:Or e ty base S w v xs) (hb:xs.length≤big) (h1:∀ q∈S',q∉v.ownBlock.toList∧(q∈S∨w.heap.size≤q)):Off S' (λ w=>Sl e w v xs) w:=λ w' f=>(h.up f (λ q hq=>(h1 q hq).1) (λ q hq=>(h1 q hq).2)).row hb
end
section
variable {P:Program} {Z:ZP} {R:Value→World→Prop} {w w':World} {A:List Nat→List Value→World→Prop} {B:List Nat→Nat→List Value→World→Prop} {ds:List Nat} {k:Value→T} {t u:T}
theorem r_appR {α:Type} {e:Rl α} {S:List Nat} {T ety bytes base ty c:Nat} {z v:Value} {xs:List α} {x:α} {es:List Value} {ad:Addr} (E:El P T ety e.n bytes z) (HO:Or e ety base S w v xs) (hr:Rd w e.n ad es) (hx:Off (v.ownBlock.toList++S) (λ w=>e.r w es x) w) (hb:(xs.length+1) * bytes≤big) (hbase:base≤w.heap.size)
  (hk:∀ v' w',Or e ety base S w' v' (xs++[x])→Fr v.ownBlock.toList w w'→(∀ q∈v'.ownBlock.toList,q∈v.ownBlock.toList∨w.heap.size≤q)→wp P Z R ds (k v') w' A B) (h0:Nat.blt 0 e.n=true:=by rfl) (hby:Nat.blt 0 bytes=true:=by rfl):wp P Z R ds (.hv (Builtin.append_ #[T,T] ty [v,.slice (some ad) 1 c].toArray) k) w A B:=by
 obtain ⟨cells,ho,hxs⟩:=HO
 refine r_appO (m:=1) (news:=es) E ho (by rw [hr.1,Nat.one_mul]) (λ h=>by cases h) (λ a ha j u hj=>by cases ha;exact hr.2 j u hj) (e.one hx.now) hb hbase (λ v' w' h1 h2 h3=>?_) h0 hby
 have hown:∀ q∈v'.ownBlock.toList,q∈v.ownBlock.toList∨w.heap.size≤q:=by
  intro q hq
  rcases h3 with h | h
  ·rw [h] at hq;exact .inl hq
  ·rw [h] at hq;simp at hq;exact .inr (by omega)
 refine hk v' w' ⟨cells++es,by rw [List.length_append];exact h1,λ j y hj=>?_⟩ h2 hown
 have hcl:=ho.1
 have g1:∀ q∈v.ownBlock.toList,q∈v.ownBlock.toList++S∨w.heap.size≤q:=λ q hq=>.inl (List.mem_append.2 (.inl hq))
 have g2:∀ q∈v'.ownBlock.toList++S,q∈v.ownBlock.toList++S∨w.heap.size≤q:=by
  intro q hq
  rcases List.mem_append.1 hq with h | h
  ·rcases hown q h with h | h
   ·exact .inl (List.mem_append.2 (.inl h))
   ·exact .inr h
  ·exact .inl (List.mem_append.2 (.inr h))
 rcases Nat.lt_or_ge j xs.length with hjl | hjl
 ·rw [List.getElem?_append_left hjl] at hj
  have:=(hxs j y hj).go h2 g1 g2
  have hle:j * e.n+e.n≤cells.length:=by
   rw [hcl]
   have:(j+1) * e.n≤xs.length * e.n:=Nat.mul_le_mul_right _ hjl
   rwa [Nat.add_mul,Nat.one_mul] at this
  rw [show ((cells++es).drop (j * e.n)).take e.n=(cells.drop (j * e.n)).take e.n by
   rw [List.drop_append_of_le_length (by omega),List.take_append_of_le_length (by rw [List.length_drop];omega)]]
  exact this
 ·rw [List.getElem?_append_right hjl] at hj
  have hj0:j=xs.length:=by
   have:=(List.getElem?_eq_some_iff.1 hj).1
   simp at this;omega
  subst hj0
  rw [Nat.sub_self] at hj
  cases hj
  rw [show ((cells++es).drop (xs.length * e.n)).take e.n=es by
   rw [← hcl,List.drop_left,List.take_of_length_le (by rw [hr.1];exact Nat.le_refl _)]]
  exact hx.go h2 g1 g2
theorem r_appL {α:Type} {e:Rl α} {S:List Nat} {T ety bytes base ty:Nat} {z v x1:Value} {xs:List α} {x:α} {es:List Value} (E:El P T ety e.n bytes z) (HO:Or e ety base S w v xs) (hx:Off (v.ownBlock.toList++S) (λ w=>e.r w es x) w) (hb:(xs.length+1) * bytes≤big) (hbase:base≤w.heap.size)
  (hk:∀ v' w',Or e ety base S w' v' (xs++[x])→Fr v.ownBlock.toList w w'→(∀ q∈v'.ownBlock.toList,q∈v.ownBlock.toList∨w.heap.size≤q)→wp P Z R ds (k v') w' A B) (hv:x1.cells=es.toArray:=by rfl) (hl:es.length=e.n:=by rfl) (h0:Nat.blt 0 e.n=true:=by rfl) (hn:Nat.ble e.n 1000=true:=by rfl) (hby:Nat.blt 0 bytes=true:=by rfl):wp P Z R ds (.hv (Instr.buildSlice T 1 [(0,x1)].toArray) λ s=>.hv (Builtin.append_ #[T,T] ty [v,s].toArray) k) w A B:=by
 refine r_bs1 E (λ b w1 hb1 B1 f1=>?_) hv hl h0 hn
 refine r_appR (x:=x) E (HO.fr0 f1) (B1.rd hl) (hx.go f1 (by simp) (λ q hq=>.inl hq)) hb (Nat.le_trans hbase f1.size) (λ v' w' h1 h2 h3=>?_) h0 hby
 refine hk v' w' h1 ((f1.mono (by simp)).trans h2) (λ q hq=>?_)
 rcases h3 q hq with h | h
 ·exact .inl h
 ·exact .inr (Nat.le_trans f1.size h)
theorem r_ifj {p:Prop} [Decidable p] {K:T} (Q:World→Prop) (hk:∀ w',Q w'→wp P Z R ds K w' A B) (h1:(∀ w',Q w'→wp P Z R ds K w' A B)→p→wp P Z R ds t w A B) (h2:¬ p→Q w):wp P Z R ds (gi (.bool (decide p)) t K) w A B:=r_if (h1 hk) (λ h=>hk w (h2 h))
end
end Go.Proofs.YtppodgdhdddfkaaGreatDoor.Sx
set_option linter.unusedVariables false
set_option linter.unusedSimpArgs false
namespace Go.Proofs.YtppodgdhdddfkaaGreatDoor.Sx
open Go Go.RowKit
theorem cell1 {w:World} {a:Addr} {m:Nat} {v:Value} (h:Rd w 1 (addA a m) [v]):w.cell? (addA a m)=some v:=by
 have:=h.2 0 v rfl
 have e0:∀ a:Addr,addA a 0=a:=λ a=>by rw [addA_eq];unfold Addr.add;simp
 rwa [e0] at this
theorem addA_addA (a:Addr) (m n:Nat):addA (addA a m) n=addA a (m+n):=by
 obtain ⟨b,o,s⟩:=a
 cases s with
 | none=>show (⟨b,o+m+n,none⟩:Addr)=⟨b,o+(m+n),none⟩;rw [Nat.add_assoc]
 | some s =>
  rw [addA_eq,addA_eq,addA_eq]
  unfold Addr.add
  by_cases hm:m=0<;>by_cases hn:n=0<;>simp [hm,hn,Nat.add_assoc]
theorem Rw.cut {α:Type} {e:Rl α} {w:World} {X:Option Addr} {xs:List α} (h:Rw e w X xs) (l c m:Nat) (hm:m=l→c=0):Rw e w (if m=l then X else X.map λ a=>a.add (l * e.n)) ((xs.drop l).take c):=by
 intro j x hj
 rw [List.getElem?_take] at hj
 split at hj
 ·rename_i hjc
  rw [List.getElem?_drop] at hj
  rw [if_neg (λ e0=>by have:=hm e0;omega)]
  obtain ⟨a,es,rfl,hr,he⟩:=h _ x hj
  refine ⟨_,es,rfl,?_,he⟩
  show Rd w e.n (addA (a.add (l * e.n)) (j * e.n)) es
  rw [← addA_eq,addA_addA,← Nat.add_mul]
  exact hr
 ·cases hj
section
variable {P:Program} {Z:ZP} {R:Value→World→Prop} {w w':World} {A:List Nat→List Value→World→Prop} {B:List Nat→Nat→List Value→World→Prop} {ds:List Nat} {k:Value→T} {t u:T}
theorem run_slg {ty ety n:Nat} {X:Option Addr} {len cap l h m:Nat} {lo hi mx:Option Value} (hu:P.underlying ty=some (.slice ety)) (hs:∀ w,(sizeOf ety).run P w=.ok n w) (hb:∀ w,(Instr.sliceBounds true len cap lo hi mx).run P w=.ok (l,h,m) w) (w:World) :
  (Instr.sliceAt ty (.slice X len cap) lo hi mx).run P w=.ok (.slice (if m=l then X else X.map λ a=>a.add (l * n)) (h-l) (m-l)) w:=by
 have e2:(Instr.slice ty (.slice X len cap) lo hi mx).run P w=.ok (.slice (if m=l then X else X.map λ a=>a.add (l * n)) (h-l) (m-l)) w:=by
  simp [Instr.slice,run_underlying hu,hb,hs]
 have hu2:P.underlying ty=some (.slice (P.elem ty)):=by rw [hu];simp [Program.elem,hu]
 simp [run_sliceAt_slice,hu2,e2]
theorem r_sll {α:Type} {e:Rl α} {ty ety:Nat} {X:Option Addr} {len cap l:Nat} {kd:IntKind} {j:Int} (hu:P.underlying ty=some (.slice ety)) (hs:∀ w,(sizeOf ety).run P w=.ok e.n w) (hj:j=l) (hl:l≤len) (hc:len≤cap) (hk:∀ X',(∀ w xs,Rw e w X xs→Rw e w X' ((xs.drop l).take (len-l)))→wp P Z R ds (k (.slice X' (len-l) (cap-l))) w A B):wp P Z R ds (.pu (Instr.sliceAt ty (.slice X len cap) (some (.int kd j)) none none) k) w A B:=by
 subst hj
 refine ⟨_,λ w'=>run_slg hu hs (l:=l) (h:=len) (m:=cap) (λ w=>?_) w',hk _ (λ w xs h=>h.cut l _ cap (λ e0=>by omega))⟩
 simp [Instr.sliceBounds,run_sliceBound w kd l len _ (by omega) (by omega)]
theorem r_sl3 {α:Type} {e:Rl α} {ty ety:Nat} {X:Option Addr} {len cap l h m:Nat} {kd kd2 kd3:IntKind} {j i q:Int} (hu:P.underlying ty=some (.slice ety)) (hs:∀ w,(sizeOf ety).run P w=.ok e.n w) (hj:j=l) (hi:i=h) (hq:q=m) (hl:l≤h) (hm:h≤m) (hc:m≤cap) (hk:∀ X',(∀ w xs,Rw e w X xs→Rw e w X' ((xs.drop l).take (h-l)))→wp P Z R ds (k (.slice X' (h-l) (m-l))) w A B):wp P Z R ds (.pu (Instr.sliceAt ty (.slice X len cap) (some (.int kd j)) (some (.int kd2 i)) (some (.int kd3 q))) k) w A B:=by
 subst hj
 subst hi
 subst hq
 refine ⟨_,λ w'=>run_slg hu hs (l:=l) (h:=h) (m:=m) (λ w=>?_) w',hk _ (λ w xs h=>h.cut l _ m (λ e0=>by omega))⟩
 simp [Instr.sliceBounds,run_sliceBound w kd3 m cap _ (by omega) (by omega),run_sliceBound w kd2 h m _ (by omega) (by omega),run_sliceBound w kd l h _ (by omega) (by omega)]
theorem r_slh3 {ty ety n:Nat} {X:Option Addr} {len cap h m:Nat} {kd2 kd3:IntKind} {i q:Int} (hu:P.underlying ty=some (.slice ety)) (hs:∀ w,(sizeOf ety).run P w=.ok n w) (hi:i=h) (hq:q=m) (hm:h≤m) (hc:m≤cap) (hk:wp P Z R ds (k (.slice X h m)) w A B):wp P Z R ds (.pu (Instr.sliceAt ty (.slice X len cap) none (some (.int kd2 i)) (some (.int kd3 q))) k) w A B:=by
 subst hi
 subst hq
 refine ⟨_,λ w'=>run_slg hu hs (l:=0) (h:=h) (m:=m) (λ w=>?_) w',?_⟩
 ·simp [Instr.sliceBounds,run_sliceBound w kd3 m cap _ (by omega) (by omega),run_sliceBound w kd2 h m _ (by omega) (by omega)]
 ·have e0:(if m=0 then X else X.map λ a=>a.add (0 * n))=X:=by
   split
   ·rfl
   ·cases X with
    | none=>rfl
    | some a=>simp;unfold Addr.add;simp
  rw [e0,Nat.sub_zero,Nat.sub_zero]
  exact hk
theorem r_min {ts:Array Nat} {ty:Nat} {kd:IntKind} {a b:Int} (hk:wp P Z R ds (k (.int kd (if b < a then b else a))) w A B):wp P Z R ds (.hv (Builtin.min_ ts ty [.int kd a,.int kd b].toArray) k) w A B:=
 ⟨_,w,by simp [Builtin.min_,Builtin.min2],hk⟩
theorem r_rem {ty:Nat} {kd:IntKind} {a b:Int} (hb:b≠0) (hk:wp P Z R ds (k (.int kd (a.tmod b))) w A B):wp P Z R ds (.pu (binOp .rem ty (.int kd a) (.int kd b)) k) w A B:=
 ⟨_,λ w'=>by simp [binOp_rem,Op.intDiv,hb],hk⟩
theorem r_bs0 {α:Type} {e:Rl α} {S:List Nat} {T ety bytes:Nat} {z:Value} (E:El P T ety e.n bytes z) (hk:∀ v w',Or e ety w.heap.size S w' v ([]:List α)→Fr [] w w'→v=.slice (some ⟨w.heap.size,0,none⟩) 0 0→wp P Z R ds (k v) w' A B):wp P Z R ds (.hv (Instr.buildSlice T 0 [].toArray) k) w A B:=by
 refine ⟨.slice (some ⟨w.heap.size,0,none⟩) 0 0,w.alloc (.cells #[] ety),?_,hk _ _ ⟨[],⟨by simp,.inr ⟨w.heap.size,0,#[],rfl,Nat.le_refl _,?_,Nat.le_refl _,by simp [maxLen],by simp,by simp⟩⟩,λ j x hj=>by simp at hj⟩ (Fr.alloc w _) rfl⟩
 ·unfold Instr.buildSlice
  simp [Sem.run_bind,run_underlying E.u,E.s,Result.andThen_ok,newRow,run_newObj,Instr.fill]
  have h0:Array.map (λ (_:Nat)=>(default:Value)) (Array.range 0)=#[]:=by apply Array.ext<;>simp
  rw [h0]
 ·exact Blk.alloc w ety []
def RwO {α:Type} (S:List Nat) (e:Rl α) (w:World) (A:Option Addr) (xs:List α):Prop:=∀ (j:Nat) x,xs[j]? = some x→∃ a es,A=some a∧Rd w e.n (addA a (j * e.n)) es∧Off S (λ w=>e.r w es x) w
theorem Rw.off {α:Type} {e:Rl α} {S:List Nat} {w0 w:World} {A:Option Addr} {xs:List α} (h:Rw e w0 A xs) (F:Fr [] w0 w) (hS:∀ q∈S,w0.heap.size≤q):RwO S e w A xs:=λ j x hj=>let ⟨a,es,h1,h2,h3⟩:=h j x hj;⟨a,es,h1,h2.fr F,e.off h3 F hS⟩
theorem rowcells {n:Nat} {Q:Nat→List Value→Prop}:∀ {m:Nat},(∀ j,j < m→∃ es:List Value,es.length=n∧Q j es)→∃ news:List Value,news.length=m * n∧∀ j,j < m→Q j ((news.drop (j * n)).take n):=by
 intro m
 induction m with
 | zero=>intro _;exact ⟨[],by simp,λ j hj=>by omega⟩
 | succ m ih =>
  intro h
  obtain ⟨news,hl,hq⟩:=ih (λ j hj=>h j (by omega))
  obtain ⟨es,hes,hqe⟩:=h m (by omega)
  refine ⟨news++es,by rw [List.length_append,hl,hes,Nat.add_mul,Nat.one_mul],λ j hj=>?_⟩
  rcases Nat.lt_or_ge j m with h1 | h1
  ·have hle:j * n+n≤news.length:=by
    rw [hl]
    have:(j+1) * n≤m * n:=Nat.mul_le_mul_right _ h1
    rwa [Nat.add_mul,Nat.one_mul] at this
   rw [List.drop_append_of_le_length (by omega),List.take_append_of_le_length (by rw [List.length_drop];omega)]
   exact hq j h1
  ·obtain rfl:j=m:=by omega
   rw [← hl,List.drop_left,List.take_of_length_le (by omega)]
   exact hqe
theorem r_apps {α:Type} {e:Rl α} {S:List Nat} {T ety bytes base ty m c:Nat} {z v:Value} {ys xs:List α} {X:Option Addr} (E:El P T ety e.n bytes z) (HO:Or e ety base S w v ys) (hm:m=xs.length) (hr:RwO (v.ownBlock.toList++S) e w X xs) (hb:(ys.length+xs.length) * bytes≤big) (hbase:base≤w.heap.size)
  (hk:∀ v' w',Or e ety base S w' v' (ys++xs)→Fr v.ownBlock.toList w w'→(∀ q∈v'.ownBlock.toList,q∈v.ownBlock.toList∨w.heap.size≤q)→wp P Z R ds (k v') w' A B) (h0:Nat.blt 0 e.n=true:=by rfl) (hby:Nat.blt 0 bytes=true:=by rfl):wp P Z R ds (.hv (Builtin.append_ #[T,T] ty [v,.slice X m c].toArray) k) w A B:=by
 subst hm
 obtain ⟨cells,ho,hxs⟩:=HO
 obtain ⟨news,hl,hq⟩:=rowcells (n:=e.n) (Q:=λ j es=>∀ x,xs[j]? = some x→∃ a,X=some a∧Rd w e.n (addA a (j * e.n)) es∧Off (v.ownBlock.toList++S) (λ w=>e.r w es x) w) (m:=xs.length) (λ j hj=>by
  obtain ⟨a,es,h1,h2,h3⟩:=hr j xs[j] (List.getElem?_eq_getElem hj)
  exact ⟨es,h2.1,λ x hx=>by rw [List.getElem?_eq_getElem hj] at hx;cases hx;exact ⟨a,h1,h2,h3⟩⟩)
 have hn0:0 < e.n:=by simpa using h0
 have place:∀ {i:Nat} {u:Value},news[i]? = some u→i / e.n < xs.length∧((news.drop (i / e.n * e.n)).take e.n)[i % e.n]? = some u:=by
  intro i u hi
  have hil:=(List.getElem?_eq_some_iff.1 hi).1
  rw [hl] at hil
  refine ⟨Nat.div_lt_of_lt_mul (by rw [Nat.mul_comm];exact hil),?_⟩
  rw [List.getElem?_take,if_pos (Nat.mod_lt _ hn0),List.getElem?_drop,Nat.div_add_mod' i e.n]
  exact hi
 refine r_appO (m:=xs.length) (news:=news) E ho hl (λ h=>?_) (λ a ha i u hi=>?_) (λ u hu=>?_) hb hbase (λ v' w' h1 h2 h3=>?_) h0 hby
 ·cases hxl:xs with
  | nil=>rfl
  | cons x r =>
   obtain ⟨a,_,h1,_⟩:=hr 0 x (by rw [hxl];rfl)
   rw [h] at h1;cases h1
 ·obtain ⟨h1,h2⟩:=place hi
  obtain ⟨x,hx⟩:=gt h1
  obtain ⟨a',ha',hrd,_⟩:=hq _ h1 x hx
  rw [ha] at ha'
  cases ha'
  have:=hrd.2 _ u h2
  rwa [addA_addA,Nat.div_add_mod' i e.n] at this
 ·obtain ⟨i,hi⟩:=List.mem_iff_getElem?.1 hu
  obtain ⟨h1,h2⟩:=place hi
  obtain ⟨x,hx⟩:=gt h1
  obtain ⟨a',ha',hrd,hoff⟩:=hq _ h1 x hx
  exact e.one hoff.now u (List.mem_of_getElem? h2)
 have hown:∀ q∈v'.ownBlock.toList,q∈v.ownBlock.toList∨w.heap.size≤q:=by
  intro q hq
  rcases h3 with h | h
  ·rw [h] at hq;exact .inl hq
  ·rw [h] at hq;simp at hq;exact .inr (by omega)
 refine hk v' w' ⟨cells++news,by rw [List.length_append];exact h1,λ j y hj=>?_⟩ h2 hown
 have hcl:=ho.1
 have g1:∀ q∈v.ownBlock.toList,q∈v.ownBlock.toList++S∨w.heap.size≤q:=λ q hq=>.inl (List.mem_append.2 (.inl hq))
 have g2:∀ q∈v'.ownBlock.toList++S,q∈v.ownBlock.toList++S∨w.heap.size≤q:=by
  intro q hq
  rcases List.mem_append.1 hq with h | h
  ·rcases hown q h with h | h
   ·exact .inl (List.mem_append.2 (.inl h))
   ·exact .inr h
  ·exact .inl (List.mem_append.2 (.inr h))
 rcases Nat.lt_or_ge j ys.length with hjl | hjl
 ·rw [List.getElem?_append_left hjl] at hj
  have:=(hxs j y hj).go h2 g1 g2
  have hle:j * e.n+e.n≤cells.length:=by
   rw [hcl]
   have:(j+1) * e.n≤ys.length * e.n:=Nat.mul_le_mul_right _ hjl
   rwa [Nat.add_mul,Nat.one_mul] at this
  rw [show ((cells++news).drop (j * e.n)).take e.n=(cells.drop (j * e.n)).take e.n by
   rw [List.drop_append_of_le_length (by omega),List.take_append_of_le_length (by rw [List.length_drop];omega)]]
  exact this
 ·rw [List.getElem?_append_right hjl] at hj
  have hjx:=(List.getElem?_eq_some_iff.1 hj).1
  obtain ⟨a,ha,hrd,hoff⟩:=hq _ hjx y hj
  have e0:(cells++news).drop (j * e.n)=news.drop ((j-ys.length) * e.n):=by
   rw [List.drop_append,List.drop_of_length_le (by rw [hcl];exact Nat.mul_le_mul_right _ hjl),List.nil_append,hcl,Nat.sub_mul]
  rw [e0]
  exact hoff.go h2 g1 g2
end
end Go.Proofs.YtppodgdhdddfkaaGreatDoor.Sx
set_option linter.unusedVariables false
set_option linter.unusedSimpArgs false
namespace Go.Proofs.YtppodgdhdddfkaaGreatDoor.Sx
open Go Go.RowKit
abbrev LV:=List (Nat × TypeId × List Value)
structure Bx (w0 w:World) (L:LV):Prop where
 F:Fr [] w0 w
 B:∀ p∈L,Blk w p.1 p.2.1 p.2.2∧w0.heap.size≤p.1
 N:(L.map (·.1)).Nodup
section
variable {w0 w w':World} {L:LV}
theorem Bx.nil (w:World):Bx w w []:=⟨Fr.refl _ _,by simp,by simp⟩
theorem Bx.of (F:Fr [] w0 w):Bx w0 w []:=⟨F,by simp,by simp⟩
theorem Bx.fr (H:Bx w0 w L) (f:Fr [] w w'):Bx w0 w' L:=⟨H.F.trans f,λ p hp=>⟨(H.B p hp).1.fr0 f,(H.B p hp).2⟩,H.N⟩
theorem Bx.frS {S:List Nat} (H:Bx w0 w L) (f:Fr S w w') (h1:∀ q∈S,w0.heap.size≤q) (h2:∀ q∈S,∀ p∈L,p.1≠q):Bx w0 w' L:=⟨H.F.trans_new f (λ q hq=>.inr (h1 q hq)),λ p hp=>⟨(H.B p hp).1.fr f (λ hq=>h2 _ hq p hp rfl),(H.B p hp).2⟩,H.N⟩
theorem Bx.add {b:Nat} {T:TypeId} {cs:List Value} (H:Bx w0 w L) (hb:b=w.heap.size) (hB:Blk w' b T cs) (f:Fr [] w w'):Bx w0 w' ((b,T,cs) :: L):=by
 refine ⟨H.F.trans f,λ p hp=>?_,?_⟩
 ·rcases List.mem_cons.1 hp with rfl | hp
  ·exact ⟨hB,by have:=H.F.size;dsimp only;omega⟩
  ·exact ⟨(H.B p hp).1.fr0 f,(H.B p hp).2⟩
 ·rw [List.map_cons,List.nodup_cons]
  refine ⟨λ hm=>?_,H.N⟩
  obtain ⟨p,hp,hpb⟩:=List.mem_map.1 hm
  have:=(H.B p hp).1.lt
  omega
theorem Bx.blk {i b:Nat} {T:TypeId} {cs:List Value} (H:Bx w0 w L) (hi:L[i]? = some (b,T,cs)):Blk w b T cs:=(H.B _ (List.mem_of_getElem? hi)).1
theorem Bx.ge {i b:Nat} {T:TypeId} {cs:List Value} (H:Bx w0 w L) (hi:L[i]? = some (b,T,cs)):w0.heap.size≤b:=(H.B _ (List.mem_of_getElem? hi)).2
theorem Bx.set {i b:Nat} {T:TypeId} {cs cs':List Value} (H:Bx w0 w L) (hi:L[i]? = some (b,T,cs)) (hB:Blk w' b T cs') (f:Fr [b] w w'):Bx w0 w' (L.set i (b,T,cs')):=by
 have hlt:=(List.getElem?_eq_some_iff.1 hi).1
 refine ⟨H.F.trans_new f (λ q hq=>.inr (by simp at hq;subst hq;exact H.ge hi)),λ p hp=>?_,?_⟩
 ·obtain ⟨j,hj⟩:=List.mem_iff_getElem?.1 hp
  rw [List.getElem?_set] at hj
  split at hj
  ·rename_i e
   subst e
   try rw [if_pos hlt] at hj
   cases hj
   exact ⟨hB,H.ge hi⟩
  ·rename_i e
   have hm:=H.B p (List.mem_of_getElem? hj)
   refine ⟨hm.1.fr f (λ hq=>?_),hm.2⟩
   simp at hq
   have hnd:=H.N
   have h1:(L.map (·.1))[i]? = some b:=by rw [List.getElem?_map,hi];rfl
   have h2:(L.map (·.1))[j]? = some b:=by rw [List.getElem?_map,hj];exact congrArg some hq
   have hil:i < (L.map (·.1)).length:=(List.getElem?_eq_some_iff.1 h1).1
   have:=(List.getElem?_inj hil hnd).1 (h1.trans h2.symm)
   exact e this
 ·have:(L.set i (b,T,cs')).map (·.1)=L.map (·.1):=by
   rw [List.map_set]
   apply List.ext_getElem?
   intro j
   rw [List.getElem?_set]
   split
   ·rename_i e
    subst e
    rw [List.length_map,if_pos hlt,List.getElem?_map,hi];rfl
   ·rfl
  rw [this]
  exact H.N
end
section
variable {P:Program} {Z:ZP} {R:Value→World→Prop} {w0 w:World} {A:List Nat→List Value→World→Prop} {B:List Nat→Nat→List Value→World→Prop} {ds:List Nat} {k:Value→T} {t u:T} {L:LV}
theorem b_box {T:TypeId} {v:Value} {cs:List Value} (H:Bx w0 w L) (hk:∀ b w',Bx w0 w' ((b,T,cs) :: L)→wp P Z R ds (k (Pt b 0)) w' A B) (hc:v.cells=cs.toArray:=by rfl):wp P Z R ds (.hv (Instr.box T v) k) w A B:=r_box (λ b w' hb hB f=>hk b w' (H.add hb hB f)) hc
theorem b_al {ty:Nat} {z:Value} {zs:List Value} (H:Bx w0 w L) (hz:∀ w,(zeroValue ty).run P w=.ok z w) (hk:∀ b w',Bx w0 w' ((b,ty,zs) :: L)→wp P Z R ds (k (Pt b 0)) w' A B) (hzc:z.cells=zs.toArray:=by rfl):wp P Z R ds (.hv (Instr.alloc ty true (.tuple #[])) k) w A B:=r_al hz (λ b w' hb hB f=>hk b w' (H.add hb hB f)) hzc
theorem b_as {ty n:Nat} {z v:Value} {cs zs:List Value} {t:Value→T} (H:Bx w0 w L) (hz:∀ w,(zeroValue ty).run P w=.ok z w) (hs:∀ w,(sizeOf ty).run P w=.ok n w) (h1:∀ v∈cs,v.oneCell'=true) (hk:∀ b w',Bx w0 w' ((b,ty,cs) :: L)→wp P Z R ds (t (Pt b 0)) w' A B) (hzc:z.cells=zs.toArray:=by rfl) (hzl:zs.length=n:=by rfl) (hv:v.cells=cs.toArray:=by rfl) (hl:cs.length=n:=by rfl):wp P Z R ds (.hv (Instr.alloc ty true (.tuple #[])) λ p=>.ef (Instr.storeAt ty p v) (t p)) w A B:=r_as (λ b w' hb hB f=>hk b w' (H.add hb hB f)) hz hs h1 hzc hzl hv hl
theorem b_ld {b j:Nat} {T:TypeId} {cs:List Value} {v:Value} (H:Bx w0 w L) (i:Nat) (hi:L[i]? = some (b,T,cs)) (hv:cs[j]? = some v) (hk:wp P Z R ds (k v) w A B):wp P Z R ds (.ld (Pt b j) k) w A B:=r_ld ((H.blk hi).cell hv) hk
theorem b_ldn {b n:Nat} {T:TypeId} {cs:List Value} (H:Bx w0 w L) (i:Nat) (hi:L[i]? = some (b,T,cs)) (hk:wp P Z R ds (k (.agg cs.toArray)) w A B) (hl:cs.length=n:=by rfl):wp P Z R ds (.ldn n (Pt b 0) k) w A B:=r_ldn ((H.blk hi).rd hl) hk
theorem b_chk {b j:Nat} {T:TypeId} {cs:List Value} {v:Value} (H:Bx w0 w L) (i:Nat) (hi:L[i]? = some (b,T,cs)) (hv:cs[j]? = some v) (hk:wp P Z R ds t w A B):wp P Z R ds (.chk none (Pt b j) v t) w A B:=r_chk ((H.blk hi).cell hv) hk
theorem b_st {ty b j:Nat} {T:TypeId} {v:Value} {cs:List Value} (H:Bx w0 w L) (i:Nat) (hi:L[i]? = some (b,T,cs)) (hs:∀ w,(sizeOf ty).run P w=.ok 1 w) (hk:∀ w',Bx w0 w' (L.set i (b,T,cs.set j v))→wp P Z R ds t w' A B) (h1:v.cells=#[v]:=by rfl) (hv:v.oneCell'=true:=by rfl) (ho:Nat.blt j cs.length=true:=by rfl):wp P Z R ds (.ef (Instr.storeAt ty (Pt b j) v) t) w A B:=r_st1 (H.blk hi) hs (λ w' hB f=>hk w' (H.set hi hB f)) h1 hv ho
theorem b_stn {ty b n:Nat} {T:TypeId} {v:Value} {cs zs:List Value} (H:Bx w0 w L) (i:Nat) (hi:L[i]? = some (b,T,zs)) (hs:∀ w,(sizeOf ty).run P w=.ok n w) (h1:∀ v∈cs,v.oneCell'=true) (hk:∀ w',Bx w0 w' (L.set i (b,T,cs))→wp P Z R ds t w' A B) (hv:v=.agg cs.toArray:=by rfl) (hl:cs.length=n:=by rfl) (hz:zs.length=n:=by rfl):wp P Z R ds (.ef (Instr.storeAt ty (Pt b 0) v) t) w A B:=r_stn (H.blk hi) hs h1 (λ w' hB f=>hk w' (H.set hi hB f)) hv hl hz
theorem b_dr (H:Bx w0 w L) (hk:∀ w',Bx w0 w' L→wp P Z R ds t w' A B):wp P Z R ds (.dr t) w A B:=r_dr (λ w' f=>hk w' (H.fr f))
theorem b_call {f:Nat} {vs:List Value} {v:Value} (H:Bx w0 w L) (h:Cz P f vs w (λ r w'=>r=v∧Fr [] w w') (ZD ds Z)) (hk:∀ w',Bx w0 w' L→wp P Z R ds (k v) w' A B):wp P Z R ds (.call f vs k) w A B:=r_call h (λ r w' h=>by obtain ⟨rfl,f⟩:=h;exact hk w' (H.fr f))
theorem b_ret {v:Value} (H:Bx w0 w L) (h:Fr [] w0 w→R v w):wp P Z R [] (.ret v) w A B:=r_ret (h H.F)
end
end Go.Proofs.YtppodgdhdddfkaaGreatDoor.Sx
set_option linter.unusedVariables false
set_option linter.unusedSimpArgs false
namespace Go.Proofs.YtppodgdhdddfkaaGreatDoor.Sx
open Go Go.RowKit
def EX (ψ:Nat→List Nat→World→Prop) (j:Nat) (bs:List Nat) (L:Nat) (b:Obj) (W W':World):Prop:=(∃ bs',ψ j bs' W'∧∀ q∈bs',q∈bs∨W.heap.size≤q)∧Fr (L :: bs) W W'∧W'.heap[L]? = some b
def ON {σ:Type} (φ:σ→List Nat→World→Prop) (s':σ) (bs:List Nat) (L:Nat) (b:Obj) (W W':World):Prop:=(∃ bs',φ s' bs' W'∧∀ q∈bs',q∈bs∨W.heap.size≤q)∧Fr (L :: bs) W W'∧W'.heap[L]? = some b
theorem RD_mono {ds:List Nat} {R R':Value→World→Prop} (h:∀ v w,R v w→R' v w) {v:Value} {w:World} (hr:RD ds R v w):RD ds R' v w:=by
 cases ds with
 | nil=>exact h _ _ hr
 | cons D ds=>exact ⟨hr.1,hr.2.1,λ W' f=>h _ _ (hr.2.2 W' f)⟩
theorem Pst_mono {R R':Value→World→Prop} {Z:ZP} (h:∀ v w,R v w→R' v w) {e:Ending} {w:World} (hr:Pst R Z e w):Pst R' Z e w:=by
 cases e with
 | returned v=>exact h _ _ hr
 | panicked c=>exact hr
 | outgrown=>exact hr
theorem wpm {P:Program} {R R':Value→World→Prop} (hR:∀ v w,R v w→R' v w):∀ (t:T) (Z:ZP) (ds:List Nat) (w:World) (A A':List Nat→List Value→World→Prop) (B B':List Nat→Nat→List Value→World→Prop),(∀ ds vs w,A ds vs w→A' ds vs w)→(∀ ds i vs w,B ds i vs w→B' ds i vs w)→wp P Z R ds t w A B→wp P Z R' ds t w A' B':=by
 intro t
 induction t with
 | ret v=>intro Z ds w A A' B B' hA hB h;exact RD_mono hR h
 | again vs=>intro Z ds w A A' B B' hA hB h;exact hA _ _ _ h
 | brk i vs=>intro Z ds w A A' B B' hA hB h;exact hB _ _ _ _ h
 | bad=>intro Z ds w A A' B B' hA hB h;exact h
 | ld a k ih=>rintro Z ds w A A' B B' hA hB ⟨ad,v,h1,h2,h3⟩;exact ⟨ad,v,h1,h2,ih _ _ _ _ _ _ _ _ hA hB h3⟩
 | ldn n a k ih=>rintro Z ds w A A' B B' hA hB ⟨ad,v,h1,h2,h3⟩;exact ⟨ad,v,h1,h2,ih _ _ _ _ _ _ _ _ hA hB h3⟩
 | chk n a v k ih=>rintro Z ds w A A' B B' hA hB ⟨h1,h3⟩;exact ⟨h1,ih _ _ _ _ _ _ _ hA hB h3⟩
 | call f vs k ih=>rintro Z ds w A A' B B' hA hB ⟨h1,h3⟩;exact ⟨h1,Calls.mono h3 (λ e w' he=>Pst_mono (λ v w h=>ih _ _ _ _ _ _ _ _ hA hB h) he)⟩
 | yld L vs k ih =>
  rintro Z ds w A A' B B' hA hB ⟨fn,tmps,asg,body,h1,h2⟩
  exact ⟨fn,tmps,asg,body,h1,RoundIn.mono h2 (λ e w' he=>Pst_mono (λ v w h=>ih _ _ _ _ _ _ _ _ hA hB h) he)⟩
 | pu s k ih=>rintro Z ds w A A' B B' hA hB ⟨v,h1,h3⟩;exact ⟨v,h1,ih _ _ _ _ _ _ _ _ hA hB h3⟩
 | hv s k ih=>rintro Z ds w A A' B B' hA hB ⟨v,w',h1,h3⟩;exact ⟨v,w',h1,ih _ _ _ _ _ _ _ _ hA hB h3⟩
 | ef s k ih=>rintro Z ds w A A' B B' hA hB ⟨w',h1,h3⟩;exact ⟨w',h1,ih _ _ _ _ _ _ _ hA hB h3⟩
 | en s k ih=>rintro Z ds w A A' B B' hA hB ⟨f,args,h1,h3⟩;exact ⟨f,args,h1,Calls.mono h3 (λ e w' he=>Pst_mono (λ v w h=>ih _ _ _ _ _ _ _ _ hA hB h) he)⟩
 | pan s=>intro Z ds w A A' B B' hA hB h;exact h
 | ar kd z k ih=>rintro Z ds w A A' B B' hA hB ⟨v,h1,h3⟩;exact ⟨v,h1,ih _ _ _ _ _ _ _ _ hA hB h3⟩
 | ob p k ih=>rintro Z ds w A A' B B' hA hB ⟨h1,h3⟩;exact ⟨h1,ih _ _ _ _ _ _ _ hA hB h3⟩
 | amb a b iha ihb=>rintro Z ds w A A' B B' hA hB ⟨h1,h3⟩;exact ⟨iha _ _ _ _ _ _ _ hA hB h1,ihb _ _ _ _ _ _ _ hA hB h3⟩
 | dr k ih=>intro Z ds w A A' B B' hA hB h w' f e;exact ih _ _ _ _ _ _ _ hA hB (h w' f e)
 | loop vs body after ihb iha =>
  rintro Z ds w A A' B B' hA hB ⟨σ,st,J,μ,s0,h1,h2,h3⟩
  exact ⟨σ,st,J,μ,s0,h1,h2,λ ds s w hj=>ihb _ _ _ _ _ _ _ _ (λ _ _ _ h=>h) (λ ds i vs w h=>iha _ _ _ _ _ _ _ _ _ hA hB h) (h3 ds s w hj)⟩
 | rb L a b k ih=>rintro Z ds w A A' B B' hA hB ⟨h1,h3⟩;exact ⟨h1,λ w' f e=>ih _ _ _ _ _ _ _ hA hB (h3 w' f e)⟩
 | rf cx g m body after ihb iha =>
  rintro Z ds w A A' B B' hA hB ⟨gf,cap,h1,h2,h3,h4⟩
  refine ⟨gf,cap,h1,h2,h3,λ L D a b w1 k1 k2 k3 k4 k5=>?_⟩
  obtain ⟨σ,st,I,X,s0,s1,g1,g2,g3,g4,g5,g6,g7⟩:=h4 L D a b w1 k1 k2 k3 k4 k5
  exact ⟨σ,st,I,X,s0,s1,g1,g2,g3,g4,g5,λ U W hI ho=>iha _ _ _ _ _ _ _ _ hA hB (g6 U W hI ho),λ U W j hI ho=>iha _ _ _ _ _ _ _ _ hA hB (g7 U W j hI ho)⟩
section
variable {P:Program} {Z:ZP} {R:Value→World→Prop} {w:World} {A:List Nat→List Value→World→Prop} {B:List Nat→Nat→List Value→World→Prop} {ds:List Nat}
theorem kp_of {L:Nat} {b:Obj} {U bs:List Nat} {W W':World} (f:Fr (L :: bs) W W') (hL:W'.heap[L]? = some b) (hU:∀ q∈U,q < W.heap.size) (hd:∀ q∈bs,q∉U):Kp L b U W W':=
 ⟨f.size,λ q hq hne=>f.keep q (hU q hq) (λ hm=>by
  rcases List.mem_cons.1 hm with h | h
  ·exact hne h
  ·exact hd q h hq),hL⟩
theorem r_rf {σ:Type} {gf m:Nat} {cap:Array Value} {body:Nat→Obj→Obj→List Value→T} {after:Nat→T} (st:σ→List Value→σ→Prop) (φ:σ→List Nat→World→Prop) (ψ:Nat→List Nat→World→Prop) (s0 s1:σ) (bs0:List Nat)
  (hcf:CF P gf) (h0:φ s0 bs0 w)
  (hφ:∀ s bs W W' S,φ s bs W→Fr S W W'→(∀ q∈S,q∉bs∧w.heap.size≤q)→φ s bs W')
  (hψ:∀ j bs W W' S,ψ j bs W→Fr S W W'→(∀ q∈S,q∉bs∧w.heap.size≤q)→ψ j bs W')
  (hlφ:∀ s bs W,φ s bs W→(∀ q∈bs,q < W.heap.size)∧w.heap.size≤W.heap.size)
  (hlψ:∀ j bs W,ψ j bs W→(∀ q∈bs,q < W.heap.size)∧w.heap.size≤W.heap.size)
  (hb:∀ L a b s s' xs bs W,L∉bs→w.heap.size≤L→L < W.heap.size→φ s bs W→W.heap[L]? = some a→st s xs s'→xs.length=m∧wp P noZ (λ _ W'=>EX ψ 1 bs L b W W') [] (body L a b xs) W (λ _ _ W'=>ON φ s' bs L b W W') (λ _ j _ W'=>EX ψ (j+2) bs L b W W'))
  (hc:∀ L D J K w1,Rg P L st J K→(∀ V s W,J V s W→∃ bs,φ s bs W)→J [] s0 w1→Cz P gf (.func (.yield L) #[] #[] :: cap.toList) w1 (λ _ W'=>∃ V,J V s1 W'∨K V W') (ZD (D :: ds) Z))
  (ha:∀ D bs W,φ s1 bs W→D∉bs→w.heap.size≤D→W.heap[D]? = some (.deferred (some []))→wp P Z R (D :: ds) (after 0) W A B)
  (hx:∀ D bs W j,ψ (j+1) bs W→D∉bs→w.heap.size≤D→W.heap[D]? = some (.deferred (some []))→wp P Z R (D :: ds) (after (j+1)) W A B) :
  wp P Z R ds (.rf none (.func (.func gf) #[] cap) m body after) w A B:=by
 refine ⟨gf,cap,rfl,hcf,(λ L o h=>by cases h),λ L D a b w1 hL0 hL1 f1 hLa hD=>?_⟩
 obtain ⟨hD0,hDL,hD1,hDd⟩:=hD
 have hbs0:=(hlφ s0 bs0 w h0).1
 have h1:φ s0 bs0 w1:=hφ _ _ _ _ [] h0 f1 (by simp)
 have stab:∀ {τ:World→List Nat→Prop},(∀ bs W W' S,τ W bs→Fr S W W'→(∀ q∈S,q∉bs∧w.heap.size≤q)→τ W' bs)→(∀ bs W,τ W bs→(∀ q∈bs,q < W.heap.size)∧w.heap.size≤W.heap.size)→Stab λ U W=>(∃ bs,τ W bs∧∀ q∈bs,q∉U)∧D∈U∧∀ q∈U,w.heap.size≤q:=by
  intro τ ht hl
  refine ⟨?_,?_⟩
  ·rintro U W W' ⟨⟨bs,k1,k2⟩,kD,k3⟩ g
   exact ⟨⟨bs,ht _ _ _ _ k1 g (λ q hq=>⟨λ hb=>k2 q hb hq,k3 q hq⟩),k2⟩,kD,k3⟩
  ·rintro U W x ⟨⟨bs,k1,k2⟩,kD,k3⟩ hx
   have hl:=hl _ _ k1
   refine ⟨⟨bs,k1,λ q hq hU=>?_⟩,List.mem_cons_of_mem _ kD,λ q hq=>?_⟩
   ·rcases List.mem_cons.1 hU with rfl | hU
    ·have:=hl.1 _ hq;omega
    ·exact k2 q hq hU
   ·rcases List.mem_cons.1 hq with rfl | hq
    ·omega
    ·exact k3 q hq
 refine ⟨σ,st,λ U s W=>(∃ bs,φ s bs W∧∀ q∈bs,q∉U)∧D∈U∧∀ q∈U,w.heap.size≤q,λ j U W=>(∃ bs,ψ j bs W∧∀ q∈bs,q∉U)∧D∈U∧∀ q∈U,w.heap.size≤q,s0,s1,?_,?_,?_,?_,?_,?_,?_⟩
 ·refine ⟨⟨bs0,h1,λ q hq hU=>?_⟩,by simp [u0],λ q hq=>?_⟩
  ·have:=hbs0 q hq
   simp [u0] at hU
   omega
  ·simp [u0] at hq;omega
 ·exact λ s=>stab (τ:=λ W bs=>φ s bs W) (λ bs W W' S=>hφ s bs W W' S) (λ bs W=>hlφ s bs W)
 ·exact λ j=>stab (τ:=λ W bs=>ψ j bs W) (λ bs W W' S=>hψ j bs W W' S) (λ bs W=>hlψ j bs W)
 ·rintro U s s' xs W hLU hu hUs ⟨⟨bs,k1,k2⟩,kD,k3⟩ hLW hst
  obtain ⟨hl,hwp⟩:=hb L a b s s' xs bs W (λ h=>k2 L h hLU) (k3 L hLU) (hUs L hLU) k1 hLW hst
  have fin:∀ {τ:List Nat→Prop} {W':World},(∃ bs',τ bs'∧∀ q∈bs',q∈bs∨W.heap.size≤q)→(∃ bs',τ bs'∧∀ q∈bs',q∉U):=by
   rintro τ W' ⟨bs',t1,t2⟩
   refine ⟨bs',t1,λ q hq hU=>?_⟩
   rcases t2 q hq with h | h
   ·exact k2 q h hU
   ·have:=hUs q hU;omega
  refine ⟨hl,wpm ?_ _ _ _ _ _ _ _ _ ?_ ?_ hwp⟩
  ·rintro _ W' ⟨e1,e2,e3⟩
   exact ⟨⟨fin (W':=W') e1,kD,k3⟩,kp_of e2 e3 hUs k2⟩
  ·rintro _ _ W' ⟨e1,e2,e3⟩
   exact ⟨⟨fin (W':=W') e1,kD,k3⟩,kp_of e2 e3 hUs k2⟩
  ·rintro _ j _ W' ⟨e1,e2,e3⟩
   exact ⟨⟨fin (W':=W') e1,kD,k3⟩,kp_of e2 e3 hUs k2⟩
 ·intro J K RG hJ hJ0 _
  exact hc L D J K w1 RG (λ V s W h=>let ⟨⟨bs,h1,_⟩,_⟩:=hJ V s W h;⟨bs,h1⟩) hJ0
 ·rintro U W ⟨⟨bs,k1,k2⟩,kD,k3⟩ hok
  exact ha D bs W k1 (λ h=>k2 D h kD) (k3 D kD) hok
 ·rintro U W j ⟨⟨bs,k1,k2⟩,kD,k3⟩ hok
  exact hx D bs W j k1 (λ h=>k2 D h kD) (k3 D kD) hok
theorem r_rfN (N:Nat) (V0:List Nat) {σ:Type} {gf m:Nat} {cap:Array Value} {body:Nat→Obj→Obj→List Value→T} {after:Nat→T} (st:σ→List Value→σ→Prop) (φ:σ→List Nat→World→Prop) (ψ:Nat→List Nat→World→Prop) (s0 s1:σ) (bs0:List Nat)
  (hN:N≤w.heap.size) (hV0:∀ q∈V0,N≤q∧q∉bs0∧q < w.heap.size) (hcf:CF P gf) (h0:φ s0 bs0 w)
  (hφ:∀ s bs W W' S,φ s bs W→Fr S W W'→(∀ q∈S,q∉bs∧N≤q)→φ s bs W')
  (hψ:∀ j bs W W' S,ψ j bs W→Fr S W W'→(∀ q∈S,q∉bs∧N≤q)→ψ j bs W')
  (hlφ:∀ s bs W,φ s bs W→(∀ q∈bs,q < W.heap.size)∧w.heap.size≤W.heap.size)
  (hlψ:∀ j bs W,ψ j bs W→(∀ q∈bs,q < W.heap.size)∧w.heap.size≤W.heap.size)
  (hb:∀ L a b s s' xs bs W,L∉bs→N≤L→L < W.heap.size→φ s bs W→W.heap[L]? = some a→st s xs s'→xs.length=m∧wp P noZ (λ _ W'=>EX ψ 1 bs L b W W') [] (body L a b xs) W (λ _ _ W'=>ON φ s' bs L b W W') (λ _ j _ W'=>EX ψ (j+2) bs L b W W'))
  (hc:∀ L D J K w1,Fr [] w w1→Rg P L st J K→(∀ V s W,J V s W→∃ bs,φ s bs W)→J V0 s0 w1→Cz P gf (.func (.yield L) #[] #[] :: cap.toList) w1 (λ _ W'=>∃ V,J V s1 W'∨K V W') (ZD (D :: ds) Z))
  (ha:∀ D bs W,φ s1 bs W→D∉bs→N≤D→W.heap[D]? = some (.deferred (some []))→wp P Z R (D :: ds) (after 0) W A B)
  (hx:∀ D bs W j,ψ (j+1) bs W→D∉bs→N≤D→W.heap[D]? = some (.deferred (some []))→wp P Z R (D :: ds) (after (j+1)) W A B) :
  wp P Z R ds (.rf none (.func (.func gf) #[] cap) m body after) w A B:=by
 refine ⟨gf,cap,rfl,hcf,(λ L o h=>by cases h),λ L D a b w1 hL0 hL1 f1 hLa hD=>?_⟩
 obtain ⟨hD0,hDL,hD1,hDd⟩:=hD
 have hbs0:=(hlφ s0 bs0 w h0).1
 have h1:φ s0 bs0 w1:=hφ _ _ _ _ [] h0 f1 (by simp)
 have stab:∀ {τ:World→List Nat→Prop},(∀ bs W W' S,τ W bs→Fr S W W'→(∀ q∈S,q∉bs∧N≤q)→τ W' bs)→(∀ bs W,τ W bs→(∀ q∈bs,q < W.heap.size)∧w.heap.size≤W.heap.size)→Stab λ U W=>(∃ bs,τ W bs∧∀ q∈bs,q∉U)∧D∈U∧∀ q∈U,N≤q:=by
  intro τ ht hl
  refine ⟨?_,?_⟩
  ·rintro U W W' ⟨⟨bs,k1,k2⟩,kD,k3⟩ g
   exact ⟨⟨bs,ht _ _ _ _ k1 g (λ q hq=>⟨λ hb=>k2 q hb hq,k3 q hq⟩),k2⟩,kD,k3⟩
  ·rintro U W x ⟨⟨bs,k1,k2⟩,kD,k3⟩ hx
   have hl:=hl _ _ k1
   refine ⟨⟨bs,k1,λ q hq hU=>?_⟩,List.mem_cons_of_mem _ kD,λ q hq=>?_⟩
   ·rcases List.mem_cons.1 hU with rfl | hU
    ·have:=hl.1 _ hq;omega
    ·exact k2 q hq hU
   ·rcases List.mem_cons.1 hq with rfl | hq
    ·omega
    ·exact k3 q hq
 refine ⟨σ,st,λ U s W=>(∃ bs,φ s bs W∧∀ q∈bs,q∉U)∧D∈U∧∀ q∈U,N≤q,λ j U W=>(∃ bs,ψ j bs W∧∀ q∈bs,q∉U)∧D∈U∧∀ q∈U,N≤q,s0,s1,?_,?_,?_,?_,?_,?_,?_⟩
 ·refine ⟨⟨bs0,h1,λ q hq hU=>?_⟩,by simp [u0],λ q hq=>?_⟩
  ·have:=hbs0 q hq
   simp [u0] at hU
   omega
  ·simp [u0] at hq;omega
 ·exact λ s=>stab (τ:=λ W bs=>φ s bs W) (λ bs W W' S=>hφ s bs W W' S) (λ bs W=>hlφ s bs W)
 ·exact λ j=>stab (τ:=λ W bs=>ψ j bs W) (λ bs W W' S=>hψ j bs W W' S) (λ bs W=>hlψ j bs W)
 ·rintro U s s' xs W hLU hu hUs ⟨⟨bs,k1,k2⟩,kD,k3⟩ hLW hst
  obtain ⟨hl,hwp⟩:=hb L a b s s' xs bs W (λ h=>k2 L h hLU) (k3 L hLU) (hUs L hLU) k1 hLW hst
  have fin:∀ {τ:List Nat→Prop} {W':World},(∃ bs',τ bs'∧∀ q∈bs',q∈bs∨W.heap.size≤q)→(∃ bs',τ bs'∧∀ q∈bs',q∉U):=by
   rintro τ W' ⟨bs',t1,t2⟩
   refine ⟨bs',t1,λ q hq hU=>?_⟩
   rcases t2 q hq with h | h
   ·exact k2 q h hU
   ·have:=hUs q hU;omega
  refine ⟨hl,wpm ?_ _ _ _ _ _ _ _ _ ?_ ?_ hwp⟩
  ·rintro _ W' ⟨e1,e2,e3⟩
   exact ⟨⟨fin (W':=W') e1,kD,k3⟩,kp_of e2 e3 hUs k2⟩
  ·rintro _ _ W' ⟨e1,e2,e3⟩
   exact ⟨⟨fin (W':=W') e1,kD,k3⟩,kp_of e2 e3 hUs k2⟩
  ·rintro _ j _ W' ⟨e1,e2,e3⟩
   exact ⟨⟨fin (W':=W') e1,kD,k3⟩,kp_of e2 e3 hUs k2⟩
 ·intro J K RG hJ _ hJV
  refine hc L D J K w1 f1 RG (λ V s W h=>let ⟨⟨bs,h1,_⟩,_⟩:=hJ V s W h;⟨bs,h1⟩) (hJV V0 ⟨⟨bs0,h1,λ q hq hU=>?_⟩,by simp [u0],λ q hq=>?_⟩ (λ q hq hu=>?_))
  ·rcases List.mem_append.1 hU with hU | hU
   ·exact (hV0 q hU).2.1 hq
   ·have:=hbs0 q hq
    simp [u0] at hU
    omega
  ·rcases List.mem_append.1 hq with hq | hq
   ·exact (hV0 q hq).1
   ·simp [u0] at hq;omega
  ·have:=hV0 q hq
   simp [u0] at hu
   omega
 ·rintro U W ⟨⟨bs,k1,k2⟩,kD,k3⟩ hok
  exact ha D bs W k1 (λ h=>k2 D h kD) (k3 D kD) hok
 ·rintro U W j ⟨⟨bs,k1,k2⟩,kD,k3⟩ hok
  exact hx D bs W j k1 (λ h=>k2 D h kD) (k3 D kD) hok
end
theorem dkeep {w w':World} {S:List Nat} {D:Nat} (h:w.heap[D]? = some (.deferred (some []))) (f:Fr S w w') (hn:D∉S):w'.heap[D]? = some (.deferred (some [])):=(f.keep D (Array.getElem?_eq_some_iff.1 h).1 hn).trans h
theorem dlt {w:World} {D:Nat} (h:w.heap[D]? = some (.deferred (some []))):D < w.heap.size:=(Array.getElem?_eq_some_iff.1 h).1
def Plain {α:Type} (e:Rl α):Prop:=∀ w w' cs x,e.r w cs x→e.r w' cs x
theorem Or.upP {α:Type} {e:Rl α} (hp:Plain e) {ty base:Nat} {S S2:List Nat} {w w':World} {v:Value} {xs:List α} {S':List Nat} (h:Or e ty base S w v xs) (f:Fr S' w w') (h1:∀ q∈S',q∉v.ownBlock.toList):Or e ty base S2 w' v xs:=by
 obtain ⟨cells,ho,hx⟩:=h
 exact ⟨cells,own_f ho f (λ q hq hs=>h1 q hs hq),λ j x hj w2 _=>hp _ _ _ _ (hx j x hj).now⟩
def Rl.at {α:Type} (e:Rl α) (w0:World):Rl α:=⟨e.n,λ _ cs x=>e.r w0 cs x,λ h=>e.len h,λ h=>e.one h,λ _ h=>h⟩
theorem plainAt {α:Type} (e:Rl α) (w0:World):Plain (e.at w0):=λ _ _ _ _ h=>h
theorem Or.keepP {α:Type} {e:Rl α} (hp:Plain e) {ty base:Nat} {S S2:List Nat} {w w':World} {v:Value} {xs:List α} (h:Or e ty base S w v xs) (k:∀ q∈v.ownBlock.toList,w'.heap[q]? = w.heap[q]?):Or e ty base S2 w' v xs:=by
 obtain ⟨cells,ho,hx⟩:=h
 exact ⟨cells,own_keep ho (λ q hq=>k q (by simp [hq])),λ j x hj w2 _=>hp _ _ _ _ (hx j x hj).now⟩
theorem Rg.rowO {α:Type} {P:Program} {w w':World} {e:Rl α} {L:Nat} {σ:Type} {st:σ→List Value→σ→Prop} {J:List Nat→σ→World→Prop} {K:List Nat→World→Prop} (RG:Rg P L st J K) {s:σ} {v:Value} {base ty:Nat} {S:List Nat} {xs:List α} (h0:J [] s w) (HO:Or e ty base S w' v xs) (hb:w.heap.size≤base) (f:Fr [] w w'):J v.ownBlock.toList s w':=
 let ⟨_,ho,_⟩:=HO;RG.row h0 ho hb f
def Gv {α:Type} (e:Rl α) (T ety:Nat) (w:World) (c:Nat) (xs:List α) (bs:List Nat) (W:World):Prop:=∃ v,Blk W c T [v]∧Or e ety w.heap.size [] W v xs∧bs=c :: v.ownBlock.toList∧c < w.heap.size∧Fr [c] w W
section
variable {α:Type} {e:Rl α} {T ety c:Nat} {w W W':World} {xs:List α} {bs:List Nat}
theorem Gv.F (h:Gv e T ety w c xs bs W):Fr [c] w W:=let ⟨_,_,_,_,_,h5⟩:=h;h5
end
section
variable {P:Program} {Z:ZP} {R:Value→World→Prop} {w W Wb:World} {A:List Nat→List Value→World→Prop} {B:List Nat→Nat→List Value→World→Prop} {ds:List Nat} {t:T}
end
end Go.Proofs.YtppodgdhdddfkaaGreatDoor.Sx
set_option linter.unusedVariables false
set_option linter.unusedSimpArgs false
namespace Go.Proofs.YtppodgdhdddfkaaGreatDoor.Sx
open Go Go.RowKit Go.Maps
def MapI (w:World) (b:Nat) (f:List Int):Prop:=∃ es clock,w.heap[b]? = some (.map es clock)∧es.toList.length=f.length∧∀ (i:Nat) (e:MapEntry),es.toList[i]? = some e→e.key=I i∧∃ z,f[i]? = some z∧e.val=I z
theorem MapI.ne {w:World} {b c:Nat} {f:List Int} {T:TypeId} {cs:List Value} (h:MapI w b f) (k:Blk w c T cs):c≠b:=by
 rintro rfl
 obtain ⟨es,cl,hb,_⟩:=h
 rw [show w.heap[c]? = _ from k] at hb
 cases hb
section
variable {P:Program} {Z:ZP} {R:Value→World→Prop} {w:World} {A:List Nat→List Value→World→Prop} {B:List Nat→Nat→List Value→World→Prop} {ds:List Nat} {k:Value→T} {t:T} {ty kt e:TypeId}
end
end Go.Proofs.YtppodgdhdddfkaaGreatDoor.Sx
set_option linter.unusedVariables false
set_option linter.unusedSimpArgs false
namespace Go.Proofs.YtppodgdhdddfkaaGreatDoor.Sx
open Go Go.RowKit Go.ChangeShapes Go.WideShapes Go.Deep
theorem list_choose {α:Type} {Q:Nat→α→Prop}:∀ {n:Nat},(∀ i,i < n→∃ a,Q i a)→∃ l:List α,l.length=n∧∀ (i:Nat) a,l[i]? = some a→Q i a:=by
 intro n
 induction n with
 | zero=>intro _;exact ⟨[],rfl,λ i a h=>by simp at h⟩
 | succ n ih =>
  intro h
  obtain ⟨l,hl,hq⟩:=ih (λ i hi=>h i (by omega))
  obtain ⟨a,ha⟩:=h n (by omega)
  refine ⟨l++[a],by simp [hl],λ i b hb=>?_⟩
  rcases Nat.lt_or_ge i l.length with h1 | h1
  ·rw [List.getElem?_append_left h1] at hb;exact hq i b hb
  ·rw [List.getElem?_append_right h1] at hb
   have:i=n:=by
    have:=(List.getElem?_eq_some_iff.1 hb).1
    simp at this;omega
   subst this
   rw [hl,Nat.sub_self] at hb
   cases hb
   exact ha
abbrev okB (l:List Nat):Prop:=∀ n∈l,n≤reachBytes
structure Rdr {α:Type} (P:Program) (t:TypeId) (e:Rl α) (wf:α→Prop):Prop where
 rd:∀ {H:Type} {enc:TypeId × Value→H} {w:World} {base:Nat} {spare:Nat→Bool} {held:Bool} {n:Nat} {cs:List Value} {x:DataW H × List MemPlace},DataW.trod enc P w base spare held n t cs=some x→okB (x.1.weights P t)→∃ a,e.r w cs a∧wf a
theorem rd_int {P:Program} {t:TypeId} {k:IntKind} (hu:P.underlying t=some (.int k)):Rdr P t (rI k) (λ z=>(Lit.int k z).wf=true):=⟨λ h _=>by
 obtain ⟨z,rfl,_,wf⟩:=DataW.trod_int hu h
 exact ⟨z,rfl,wf⟩⟩
theorem rd_bool {P:Program} {t:TypeId} (hu:P.underlying t=some .bool):Rdr P t rB (λ _=>True):=⟨λ h _=>by
 obtain ⟨z,rfl,_⟩:=DataW.trod_bool hu h
 exact ⟨z,rfl,trivial⟩⟩
theorem rd_string {P:Program} {t:TypeId} (hu:P.underlying t=some .string):Rdr P t rS (λ s=>s.size≤reachBytes):=⟨λ h hw=>by
 obtain ⟨s,rfl,rfl,_⟩:=DataW.trod_string hu h
 exact ⟨s,rfl,by have:=hw _ (by simp [DataW.weights];rfl);simpa using this⟩⟩
theorem weightsAll_mem {H:Type} {P:Program} {e:TypeId}:∀ {l:List (DataW H)} {d:DataW H},d∈l→∀ n∈d.weights P e,n∈DataW.weightsAll P e l:=by
 intro l
 induction l with
 | nil=>intro d h;simp at h
 | cons x r ih =>
  intro d h n hn
  simp only [DataW.weightsAll,List.mem_append]
  rcases List.mem_cons.1 h with rfl | h
  ·exact .inl hn
  ·exact .inr (ih h n hn)
theorem rd_slice {α:Type} {P:Program} {t el:TypeId} {e:Rl α} {wf:α→Prop} (hu:P.underlying t=some (.slice el)) (hc:P.cellsOf el=e.n) (hb:0 < P.bytesOf el) (E:Rdr P el e wf):Rdr P t (rL e) (λ l=>∀ a∈l,wf a):=⟨λ {H enc w base spare held n cs x} h hw=>by
 rcases open_slice hu h with ⟨rfl,rfl⟩ | ⟨a,len,cap,m,n',D,Pl,rfl,_,hlc,hcm,hm,rfl,hx⟩
 ·exact ⟨[],⟨none,0,rfl,Nat.le_refl _,Nat.zero_le _,Rw.nil⟩,by simp⟩
 ·have hlm:len≤m:=by rw [hm];split<;>omega
  have hD:∀ i,i < len→okB ((D i).weights P el):=λ i hi k hk=>hw k (by
   simp only [DataW.weights,hu,List.mem_cons,List.mem_append]
   exact .inr (.inl (weightsAll_mem (List.mem_map.2 ⟨i,List.mem_range.2 hi,rfl⟩) k hk)))
  have hlen:len≤big:=by
   have:=hw ((len+(m-len)) * P.bytesOf el) (by simp [DataW.weights,hu])
   have h1:len+(m-len)≤(len+(m-len)) * P.bytesOf el:=Nat.le_mul_of_pos_right _ hb
   have h2:reachBytes < 140737488355328:=by decide
   simp only [big];omega
  obtain ⟨l,hl,hq⟩:=list_choose (α:=α) (n:=len) (Q:=λ i x=>wf x∧∃ cs',w.cells? base (a.add (i * P.cellsOf el)) (P.cellsOf el)=some cs'∧e.r w cs' x) (λ i hi=>by
   obtain ⟨cs',h1,h2⟩:=hx i (by omega)
   obtain ⟨x,h3,h4⟩:=E.rd h2 (hD i hi)
   exact ⟨x,h4,cs',h1,h3⟩)
  refine ⟨l,⟨some a,cap,by rw [hl],by omega,by omega,λ j x hj=>?_⟩,λ x hx=>?_⟩
  ·obtain ⟨_,cs',h1,h2⟩:=hq j x hj
   refine ⟨a,cs',rfl,⟨e.len h2,λ i v hv=>?_⟩,h2⟩
   rw [addA_eq,addA_eq,← hc]
   exact cells_of h1 i v hv
  ·obtain ⟨i,hi⟩:=List.mem_iff_getElem?.1 hx
   exact (hq i x hi).1⟩
def Fds {H:Type} (enc:TypeId × Value→H) (P:Program) (w:World) (base:Nat) (spare:Nat→Bool) (held:Bool) (n:Nat) (cs:List Value):List TypeId→Nat→List (DataW H × List MemPlace)→Prop
 | [],off,xs=>xs=[]∧cs.length=off
 | t :: ts,off,xs=>∃ x r,xs=x :: r∧DataW.trod enc P w base spare held n t ((cs.drop off).take (P.cellsOf t))=some x∧Fds enc P w base spare held n cs ts (off+P.cellsOf t) r
structure Fd {α:Type} (P:Program) (ts:List TypeId) (e:Rl α) (wf:α→Prop):Prop where
 rd:∀ {H:Type} {enc:TypeId × Value→H} {w:World} {base:Nat} {spare:Nat→Bool} {held:Bool} {n:Nat} {cs:List Value} {off:Nat} {xs:List (DataW H × List MemPlace)},Fds enc P w base spare held n cs ts off xs→okB (DataW.weightsEach P ts (xs.map (·.1)))→∃ a,e.r w (cs.drop off) a∧wf a
theorem fd_one {α:Type} {P:Program} {t:TypeId} {e:Rl α} {wf:α→Prop} (E:Rdr P t e wf):Fd P [t] e wf:=⟨λ h hw=>by
 obtain ⟨x,r,rfl,h1,rfl,h2⟩:=h
 obtain ⟨a,h3,h4⟩:=E.rd h1 (λ n hn=>hw n (by simp [DataW.weightsEach,hn]))
 rw [List.take_of_length_le (by rw [List.length_drop];omega)] at h3
 exact ⟨a,h3,h4⟩⟩
theorem fd_cons {α β:Type} {P:Program} {t:TypeId} {ts:List TypeId} {e:Rl α} {e2:Rl β} {wf:α→Prop} {wf2:β→Prop} (E:Rdr P t e wf) (F:Fd P ts e2 wf2):Fd P (t :: ts) (rP e e2) (λ p=>wf p.1∧wf2 p.2):=⟨λ h hw=>by
 obtain ⟨x,r,rfl,h1,h2⟩:=h
 obtain ⟨a,h3,h4⟩:=E.rd h1 (λ n hn=>hw n (by simp [DataW.weightsEach,hn]))
 obtain ⟨b,h5,h6⟩:=F.rd h2 (λ n hn=>hw n (by simp [DataW.weightsEach,hn]))
 refine ⟨(a,b),⟨_,_,?_,h3,h5⟩,h4,h6⟩
 rw [← List.drop_drop,List.take_append_drop]⟩
def offsOk (P:Program):List Field→Nat→Nat→Bool
 | [],off,tot=>Nat.beq off tot
 | f :: r,off,tot=>Nat.beq f.offset off && offsOk P r (off+P.cellsOf f.type) tot
theorem fds_of {H:Type} {enc:TypeId × Value→H} {P:Program} {w:World} {base:Nat} {spare:Nat→Bool} {held:Bool} {n:Nat} {cs:List Value}:∀ {fs:List Field} {off:Nat} {xs:List (DataW H × List MemPlace)},offsOk P fs off cs.length=true→xs.length=fs.length→(∀ (i:Nat) (f:Field),fs[i]? = some f→DataW.trod enc P w base spare held n f.type ((cs.drop f.offset).take (P.cellsOf f.type))=xs[i]?)→Fds enc P w base spare held n cs (fs.map (·.type)) off xs:=by
 intro fs
 induction fs with
 | nil=>intro off xs h1 h2 _;exact ⟨List.eq_nil_of_length_eq_zero h2,(Nat.eq_of_beq_eq_true h1).symm⟩
 | cons f r ih =>
  intro off xs h1 h2 h3
  rw [offsOk,Bool.and_eq_true] at h1
  have ho:=Nat.eq_of_beq_eq_true h1.1
  cases xs with
  | nil=>simp at h2
  | cons x ys =>
   have h4:=h3 0 f rfl
   rw [ho] at h4
   exact ⟨x,ys,rfl,h4,ih h1.2 (by simpa using h2) (λ i g hg=>h3 (i+1) g hg)⟩
theorem rd_struct {α:Type} {P:Program} {t:TypeId} {fs:Array Field} {ts:List TypeId} {e:Rl α} {wf:α→Prop} (hu:P.underlying t=some (.struct fs)) (hts:fs.toList.map (·.type)=ts) (ho:offsOk P fs.toList 0 (P.cellsOf t)=true) (F:Fd P ts e wf):Rdr P t e wf:=⟨λ h hw=>by
 obtain ⟨xs,m,rfl,rfl,hlen,hxl,hfs⟩:=DataW.trod_struct hu h
 subst hts
 have h1:=fds_of (off:=0) (by rw [hlen];exact ho) (by simpa using hxl) (λ i f hf=>hfs i f (by simpa using hf))
 obtain ⟨a,h2,h3⟩:=F.rd h1 (λ n hn=>hw n (by simp only [DataW.weights,hu];exact hn))
 exact ⟨a,h2,h3⟩⟩
theorem Rdr.to {α β:Type} {P:Program} {t:TypeId} {e:Rl α} {e2:Rl β} {wf:α→Prop} {wf2:β→Prop} (E:Rdr P t e wf) (f:α→β) (h1:∀ w cs a,e.r w cs a→e2.r w cs (f a)) (h2:∀ a,wf a→wf2 (f a)):Rdr P t e2 wf2:=⟨λ h hw=>let ⟨a,h3,h4⟩:=E.rd h hw;⟨f a,h1 _ _ _ h3,h2 _ h4⟩⟩
end Go.Proofs.YtppodgdhdddfkaaGreatDoor.Sx
