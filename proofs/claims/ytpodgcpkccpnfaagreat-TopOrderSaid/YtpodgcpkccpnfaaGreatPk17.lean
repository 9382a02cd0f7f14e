import Derived.RangeFuncNested
import Derived.RangeFuncLeaves
import Derived.RangeFuncRecord
import Derived.TacticsInMore
import Derived.LoopIn
import Derived.LoopNIn
import Derived.OwnWalkIn
import Derived.Shelf.Abstract
import Derived.Test.YtpodgcpkccpnfaaGreatPk06
set_option linter.unusedVariables false
set_option linter.unusedSimpArgs false
set_option maxRecDepth 20000
set_option maxHeartbeats 40000000
namespace Go.Proofs.YtpodgcpkccpnfaaGreat
variable{st:Int}{rg:Int->Prop}{l l':List Int}{L:List Item}{D N lo q:Nat}{o:Oper}{t:TypeId}{v:Value}{w:World}
section
open Go.RowKit
def uq (k b lo n wr rd tp:tyI):Array Value:= #[.int .i64 k,.int .i64 b,.int .i64 lo,.int .i64 n,.int .i64 wr,.int .i64 rd,.int .i64 tp]
def Ji (h:tyN)(k b lo n wr rd tp:tyI)(w:tyW):Prop:=(V w h 0 k/\V w h 1 b/\V w h 2 lo/\V w h 3 n)/\V w h 4 wr/\V w h 5 rd/\V w h 6 tp
section
variable {P:Program}{ops:Array Oper}{Q:Exit->Act->World->Prop}{md:Region.Mode}{S:World->Prop}{oi:Oper}{fuel:tyN}{listed:Array Bool}{a:Act}{w:tyW}
theorem tk(i:tyN)(hS:S w)(h:wpAnyH P md ops Q S fuel (listed.setIfInBounds i true) (a.put oi.dst v) w)(hi:ops[i]?=some oi:=by exact rfl)
  (hc:(Region.noSelect ops&&(Region.free md ops listed i&&((Region.ready md ops listed).contains i&&Region.wanted oi (yielded ops a.tmps))))=true:=by kernel_rfl)
  (hQ:∀c a w,Q (.panic c) (a.put oi.dst v) w->Q (.panic c) a w:=by exact λ_ _ _ h=>h)
  (hv:∀w,S w->(execOp a.eval oi).run P w= .ok (.value v) w:=by(intro w hSw;(try unfold Ji at hSw);(try dsimp only at hSw);go_simp;(try exact rfl))):wpAnyH P md ops Q S (fuel+1) listed a w:=by
 simp only[Fh]at hc;exact AAM hi hc.1 hc.2.1 hc.2.2.1 hQ (.inl ⟨hc.2.2.2,hv⟩) hS h
theorem ry(i:tyN)(h:∀K':Act->World->Prop,Shut (∀a w,S w->(S w->wpAnyH P md ops Q S fuel (listed.setIfInBounds i true) a w)->K' a w)->if Region.wanted o (yielded ops a.tmps)=true then Oper.wp P o a w K' Q else K' (a.put o.dst undef) w)
  (hr:Region.ready md ops listed=[i]:=by decide+kernel) (ho:ops[i]?=some o:=by exact rfl):wpAnyH P md ops Q S (fuel+1) listed a w:=
 Dn hr Az (BU ho h Dp)
theorem dz(h:Q .normal a w)(hr:Region.ready md ops listed=[]:=by kernel_rfl):wpAnyH P md ops Q S fuel listed a w:=CN hr h _
end
theorem pS:(∀(a:Act) (t:tyN) (v:tyV),a.put (some t) v={a with tmps:=a.tmps.setIfInBounds t v})/\(∀(a:Act) (v:tyV),a.put none v=a)/\(∀(xs:List Value) (i:tyN) (x:tyV),xs.toArray.setIfInBounds i x=(xs.set i x).toArray)/\(∀(a b:tyV) (l:List Value),(a::l).set 0 b=b::l)/\(∀(a b:tyV) (l:List Value) (n:tyN),(a::l).set (n+1) b=a::l.set n b):=
 ⟨λ_ _ _=>rfl,λ_ _=>rfl,λ_ _ _=>AAA _ _ _,λ_ _ _=>List.set_cons_zero,λ_ _ _ _=>List.set_cons_succ⟩
theorem Cr{w:tyW}{g B:tyN}{s:TS}(h:AX w g B s)(k b lo n wr rd tp:tyI):∃W,w.alloc (Y #[k,b,lo,n,wr,rd,tp] 130)=W/\Hid (AX W g B s)/\Hid (TK g B w W)/\Hid (Up w W)/\Hid (∀w',TK g B W w'->Ji w.heap.size k b lo n wr rd tp w'):=by
 have hb:=Ah w (Y (uq k b lo n wr rd tp) 130);have hU:Up w (w.alloc (Y (uq k b lo n wr rd tp) 130)):=(AV w).alloc _;have hgs:=h.1.gs;refine⟨_,rfl,I (h.up hU),I (TK.Bp hU),I hU,I λw' k2=>?_⟩
 have hb':=(k2.block w.heap.size (gE hb).1 J (λ_ cs' e he=>by
  have he:=hb.symm.trans he;simp only[Dt,Xc,P9]at he;obtain⟨_,rfl⟩:=he
  decide)).trans hb
 exact⟨⟨Ar _ _ 0 _ _ _ hb',Ar _ _ 1 _ _ _ hb',Ar _ _ 2 _ _ _ hb',Ar _ _ 3 _ _ _ hb'⟩,Ar _ _ 4 _ _ _ hb',Ar _ _ 5 _ _ _ hb',Ar _ _ 6 _ _ _ hb'⟩
theorem C0(x:tyI)(h0: -1099511627776<=x)(h1:x<=1099511627776):wrap64 x=x/\IntKind.i64.wrap x=x:=⟨IntWalk.wrap64_in _ J,qH _ J J⟩
section
variable {P:Program}{ops:Array Oper}
def Hy (ops:Array Oper):Bool:=ops.all λo=>match o.op with| .defer _=>false|_=>true
theorem Yk(h:Hy ops=true){j:tyN}(ho:ops[j]?=some o):∀c,o.op≠ .defer c:=λc e=>by
 unfold Hy at h;rw[Array.all_eq_true_iff_forall_mem]at h;have:=h o (fd ho);rw[e]at this;cases this
def Ut (P:Program)(b:Frame)(k:List Go.Item)(cs:List Frame)(m:Machine):Exit->Act->World->Prop
 | .normal,a,w=>Steps P m (lone (b.atR a k) cs w)
 | .panic ch,a,w=> ∃ops' l k',Steps P m (lone {b.atR a (.inRegion ops' l::k')with mode:= .panicking ch} cs w)
 |_,_,_=>False
theorem Ut.of{b:Frame}{k:List Go.Item}{cs:List Frame}{m m1:Machine}(h:Steps P m m1):∀{e:Exit} {a:Act} {w:tyW},Ut P b k cs m1 e a w->Ut P b k cs m e a w
 | .normal,_,_,h2=>h.trans h2
 | .panic _,_,_,⟨o,l,k',h2⟩=>⟨o,l,k',h.trans h2⟩
theorem T4{Q:Exit->Act->World->Prop}(hnd:Hy ops=true)(hlo:¬LetsOut Q){b:Frame}{lp:tyN}(hro:b.roundOf=some lp){k:List Go.Item}{cs:List Frame}:∀(l:List Nat) (a:Act) (w:tyW),wpOps P ops Q l a w->
  ∃e a' w',Q e a' w'/\Ut P b k cs (lone (b.atR a (.inRegion ops l::k)) cs w) e a' w':=λl=>by
 induction l with
 |nil=>exact λa w h=>⟨.normal,a,w,h,.one stepR_region_end⟩
 |cons i rest ih=>
  intro a w h;simp only[wpOps]at h;cases ho:ops[i]? with
  |none=>
   simp only[ho]at h;obtain⟨e,a',w',hq,harr⟩:=ih a w h;have hs:=stepR_op_skip (P:=P) (b:=b) (a:=a) (k:=k) (cs:=cs) (w:=w) (ops:=ops) (i:=i) (rest:=rest) (by simp[ho]);simp only[ho,Option.bind_none,Act.put]at hs;exact⟨e,a',w',hq,.of (.one hs) harr⟩
  |some o=>
   simp only[ho]at h;by_cases hw:Region.wanted o (yielded ops a.tmps)=true
   .simp only[hw,Ke]at h;have h:=h.resolve_right λq=>hlo q.2
    have hg:=stepGR_op (P:=P) (b:=b) (k:=k) (cs:=cs) (w:=w) (rest:=rest) ho hw;rw[Oper.semAt_eq _ _ _ (Yk hnd ho)]at hg;have hfin:∀v,(b.atR a (.inRegion ops (i::rest)::k)).finish v=b.atR (a.put o.dst v) (.inRegion ops rest::k):=λv=>by rw[Frame.finish_atR,ho];rfl
    unfold Oper.wp at h;simp only[Oper.upon]at h;split at h
    .rename_i v w' hr';obtain⟨e,a',w2,hq,harr⟩:=ih _ _ h;refine⟨e,a',w2,hq,.of (.one (Zl ?_)) harr⟩;rw[hg,<-hfin];simp[stepG.apply,hr']
    .rename_i w' hr';obtain⟨e,a',w2,hq,harr⟩:=ih _ _ h;refine⟨e,a',w2,hq,.of (.one (Zl ?_)) harr⟩;rw[hg,<-hfin];simp[stepG.apply,hr']
    .rename_i d w' hr';obtain⟨e,a',w2,hq,harr⟩:=ih _ _ h;refine⟨e,a',w2,hq,.of (.one (Zl ?_)) harr⟩
     have:({b.atR a (.inRegion ops (i::rest)::k)with defers:=d::a.defers}:Frame).finish undef=b.atR ({a with defers:=d::a.defers}.put o.dst undef) (.inRegion ops rest::k):=by
      have:=Frame.finish_atR b {a with defers:=d::a.defers} ops i rest k undef;rw[ho]at this;exact this
     rw[hg];simp only[stepG.apply,Sem.runT_eq,hr',GStep.bare_after];exact DJ (λfr=>GStep.go {frame:=fr,callers:=cs,status:= .running,dying:=none} w') this
    .rename_i f args w' hr';obtain⟨e,w2,fr,hR,hsteps,hfn,hleave⟩:=h (b.atR a (.inRegion ops (i::rest)::k)::cs)
     have henter:step P (lone (b.atR a (.inRegion ops (i::rest)::k)) cs w)= .next (lone (Frame.enter P f args .normal) (b.atR a (.inRegion ops (i::rest)::k)::cs) w'):=
      Zl (by rw[hg];simp[stepG.apply,hr',Frame.atR])
     cases e with
     |returned v=>
      obtain⟨e,a',w3,hq,harr⟩:=ih _ _ hR;refine⟨e,a',w3,hq,.of (.head henter (iX hsteps (.one ?_))) harr⟩;rw[<-hfin];exact step_leave_returned hleave
     |panicked chain=>
      refine⟨.panic chain,a,w2,hR,ops,i::rest,k,.head henter (iX hsteps (.one ?_))⟩;rw[<-Frame.raise_atR];exact step_leave_panicked hleave
     |outgrown=>exact absurd hR hlo
    .rename_i row args w' hr';obtain⟨v,w2,hR,hsteps⟩:=h (b.atR a (.inRegion ops (i::rest)::k)) cs
     have henter:step P (lone (b.atR a (.inRegion ops (i::rest)::k)) cs w)= .next (lone (Frame.ofRow P row args .normal) (b.atR a (.inRegion ops (i::rest)::k)::cs) w'):=
      Zl (by rw[hg];simp[stepG.apply,hr',Frame.atR])
     obtain⟨e,a',w3,hq,harr⟩:=ih _ _ hR;refine⟨e,a',w3,hq,.of (.head henter ?_) harr⟩;rw[<-hfin];exact hsteps
    .rename_i v w' hr';refine⟨_,a,w',h,ops,i::rest,k,.one (Zl ?_)⟩;rw[hg,<-Frame.raise_atR];simp[stepG.apply,hr']
    .exact h.elim
   .simp only[hw,pH,qa]at h;obtain⟨e,a',w',hq,harr⟩:=ih _ _ h;have hs:=stepR_op_skip (P:=P) (b:=b) (a:=a) (k:=k) (cs:=cs) (w:=w) (ops:=ops) (i:=i) (rest:=rest) (by simp[ho];simpa using hw);simp only[ho,Option.bind_some]at hs;exact⟨e,a',w',hq,.of (.one hs) harr⟩
def ZP (P:Program)(l:tyN)(R:Ending->World->Prop):Exit->Act->World->Prop
 | .normal,_,w=> ∃v w',(Instr.endRound l none).run P w= .ok v w'/\R (.returned v) w'
 | .panic ch,a,w=>a.defers=[]/\R (.panicked ch) w
 |_,_,_=>False
theorem mK{l f ia ib ir:tyN}{tmps:Array Value}{PQ:Array Oper}{R:Ending->World->Prop}(hm:P.follows .mixedOrders=true)(hA:Hy PQ=true)(hB:Hy ops=true)
  (h:wpOps P PQ (Exit.then (λa w=> ∃w2,(Instr.beginRound l).run P w= .ok () w2/\wpAny P .any ops (ZP P l R) ops.size (Array.replicate ops.size false) a w2.drew) λ_ _ _=>False) (List.range PQ.size) {tmps:=tmps,defers:=[]} w):
  RoundIn Fence.wide 1 P l f tmps (.region ia PQ false) (.block ib (.region ir ops true)) w R:=by
 refine⟨trivial,λc cs _=>?_⟩
 let b:Frame:={(default:Frame)with fn:=f,kind:= .normal,roundOf:=some l}
 have hb0:Frame.round l f tmps (.region ia PQ false) (.block ib (.region ir ops true)) .normal=b.atR {tmps:=tmps,defers:=[]} [.code (.region ia PQ false),.beginRound,.code (.block ib (.region ir ops true))]:=by
  simp[Frame.round,Frame.atR,b]
 have ho:¬LetsOut (Exit.then (λa w=> ∃w2,(Instr.beginRound l).run P w= .ok () w2/\wpAny P .any ops (ZP P l R) ops.size (Array.replicate ops.size false) a w2.drew) λ_ _ _=>False):=λ⟨_,_,q⟩=>q
 obtain⟨e,a1,w1,hq,harr⟩:=T4 hA ho (b:=b) (lp:=l) rfl (k:=[.beginRound,.code (.block ib (.region ir ops true))]) (cs:=c::cs) _ _ _ h;rw[hb0];cases e with
 |normal=>
  obtain⟨w2,hbr,hany⟩:=hq;have hops:=wpAny_sound ops.size (w2.tape w2.drawn (.order f ir)) _ _ _ hany
  have s1:Steps P (lone (b.atR {tmps:=tmps,defers:=[]} [.code (.region ia PQ false),.beginRound,.code (.block ib (.region ir ops true))]) (c::cs) w) (lone (b.atR a1 (.inRegion ops (Region.schedule (P.follows .mixedOrders) ops (w2.tape w2.drawn (.order f ir)))::[.inBlock ib])) (c::cs) w2.drew):=
   .head stepR_region (harr.trans (.head (stepR_beginRound rfl hbr) (.head stepR_block (.one stepR_region_draw))))
  have ABs:wpOps P ops (ZP P l R) (Region.schedule (P.follows .mixedOrders) ops (w2.tape w2.drawn (.order f ir))) a1 w2.drew:=by
   simp only[Region.schedule,hm,Bool.true_or,Ke];exact hops
  obtain⟨e2,a2,w3,hq2,uS⟩:=T4 hB (λ⟨_,_,q⟩=>q) (b:=b) (lp:=l) rfl (k:=[.inBlock ib]) (cs:=c::cs) _ _ _ ABs;cases e2 with
  |normal=>
   obtain⟨v,w4,hend,hR⟩:=hq2;exact⟨.returned v,w4,hR,comesIn_wide.2 (iX s1 (iX uS (.head stepR_inBlock (.one (stepR_round_end rfl rfl hend)))))⟩
  |panic ch=>
   obtain⟨hd,hR⟩:=hq2;obtain⟨o',l',k',hs⟩:=uS;refine⟨.panicked ch,w3,hR,comesIn_wide.2 (iX s1 (iX hs (.one (Zl ?_))))⟩
   have ABt:({b.atR a2 (.inRegion o' l'::k')with mode:= .panicking ch}:Frame).catches P=false:=by
    unfold Frame.catches;split
    .rename_i h2;cases h2
    .rfl
   simp only[Frame.atR,hd]at ABt;simp[stepG,unwind,Frame.atR,hd,ABt]
  |exit _=>exact hq2.elim
  |goto _=>exact hq2.elim
  |ret=>exact hq2.elim
  |outgrown=>exact hq2.elim
 |exit _=>exact hq.elim
 |goto _=>exact hq.elim
 |ret=>exact hq.elim
 |panic _=>exact hq.elim
 |outgrown=>exact hq.elim
def AAH (B:tyN)(AB:World->Prop)(Ip:List PanicEntry->World->Prop)(W:tyW):Exit->Act->World->Prop
 | .normal,_,W'=>KeepsFrom B W W'/\AB W'
 | .panic ch,a,W'=>a.defers=[]/\KeepsFrom B W W'/\Ip ch W'
 |_,_,_=>False
theorem gu{a:Act}{K K':Act->World->Prop}{Q Q':Exit->Act->World->Prop}(h:∀a w,K a w->K' a w)(hq:∀e a w,Q e a w->Q' e a w)(hh:o.wp P a w K Q):o.wp P a w K' Q':=by
 unfold Oper.wp at*;generalize(execOp a.eval o).run P w=r at*;cases r with
 |ok x w'=>
  cases x<;>simp only[Oper.upon]at hh|-
  case value=>exact h _ _ hh
  case skip=>exact h _ _ hh
  case defer=>exact h _ _ hh
  case enter=>
   refine hh.mono λe w q=>?_
   cases e with
   |returned v=>exact h _ _ q
   |panicked ch=>exact hq _ _ _ q
   |outgrown=>exact let⟨a,w,q⟩:=q;⟨a,w,hq _ _ _ q⟩
  case row=>exact hh.mono λv w q=>h _ _ q
 |halt x w'=>
  cases x<;>simp only[Oper.upon]at hh|-
  case panic=>exact hq _ _ _ hh
theorem N6{Q Q':Exit->Act->World->Prop}{md:Region.Mode}(hq:∀e a w,Q e a w->Q' e a w):∀(fuel:tyN) (listed:Array Bool) (a:Act) (w:tyW),wpAny P md ops Q fuel listed a w->wpAny P md ops Q' fuel listed a w
 |0,_,_,_,h=>⟨h.1,hq _ _ _ h.2⟩
 |fuel+1,_,_,_,h=>⟨λq=>hq _ _ _ (h.1 q),λi hi=>by
  have h2:=h.2 i hi;unfold wpOp at h2|-;split
  .rename_i ho;simp only[ho]at h2;exact N6 hq fuel _ _ _ h2
  .rename_i o ho;simp only[ho]at h2;split
   .rename_i hw;simp only[hw,Ke]at h2;exact h2.imp (gu (N6 hq fuel _) hq) λ⟨q1,a,w,q⟩=>⟨q1,a,w,hq _ _ _ q⟩
   .rename_i hw;simp only[hw]at h2
    exact N6 hq fuel _ _ _ h2⟩
theorem Qx{ia ib ir p gf k:tyN}{PQ:Array Oper}{g:Operand}{Q:Exit->Act->World->Prop}{a:Act}{lb:Array Value}(hm:P.follows .mixedOrders=true)(hA:Hy PQ=true)(hB:Hy ops=true)
  (hg:a.eval g= .func (.func gf) #[] lb) (eg:∀args w,(callFunc gf args).run P w= .ok (.enter gf args) w) (AB:Nat->World->Prop) (Ip:List PanicEntry->World->Prop) (hI:OwnFrom w.heap.size AB) (h0:AB 0 w) (want:Nat->Prop)
  (hseq:∀(l:tyN) (AC:Nat->World->Prop) (Jp:List PanicEntry->World->Prop) (W:tyW),(∀i W,AC i W->AB i W)->(∀i W,AC i W->¬want i->AC (i+1) W)->
   (∀i W,i<k->want i->AC i W->YieldAt Fence.wide 1 P l #[O i] W λe W'=>(e=BA true/\AC (i+1) W')\/∃ch,e= .panicked ch/\Jp ch W')->AC 0 W->
   CallsIn Fence.wide 2 P gf (#[.func (.yield l) #[] #[]]++lb) W λe W'=>(∃v,e=BA v/\AC k W')\/∃ch,e= .panicked ch/\Jp ch W')
  (ABu:∀i W,AB i W->¬want i->AB (i+1) W) (d:tyN)
  (hassign:∀i W (K:Act->World->Prop),K (Act.put {tmps:=a.tmps.setIfInBounds p (O i),defers:=[]} (some d) (O i)) W->wpOps P PQ (Exit.then K λ_ _ _=>False) (List.range PQ.size) {tmps:=a.tmps.setIfInBounds p (O i),defers:=[]} W)
  (hbody:∀i W,i<k->want i->AB i W->w.heap.size<=W.heap.size->wpAny P .any ops (AAH w.heap.size (AB (i+1)) Ip W) ops.size (Array.replicate ops.size false) (Act.put {tmps:=a.tmps.setIfInBounds p (O i),defers:=[]} (some d) (O i)) W.drew)
  (hdone:∀D W,w.heap.size<=D->AB k W->W.heap[D]?=some (.deferred (some []))->Q .normal {a with defers:={target:= .collected D,args:= #[]}::a.defers} W)
  (hpan:∀D ch W,w.heap.size<=D->Ip ch W->W.heap[D]?=some (.deferred (some []))->Q (.panic ch) {a with defers:={target:= .collected D,args:= #[]}::a.defers} W):
  (Code.rangeFunc g #[p] (.region ia PQ false) (.block ib (.region ir ops true))).wp P Q a w:=by
 refine(wpIn_wide (n:=3)).1 (wpIn_rangeFunc λfn _=>?_);obtain⟨rec,hrec⟩:∃rec:LoopState->Option Code->Loop,rec=λst pe=>{state:=st,pending:=pe,fn,tmps:=a.tmps,params:= #[p],assign:= .region ia PQ false,body:= .block ib (.region ir ops true),defers:=w.heap.size}:=⟨_,rfl⟩
 obtain⟨W1,hW1⟩:=gX ((w.alloc (.deferred (some []))).alloc (.loop (rec .ready none)))
 have hL1:W1.heap[w.heap.size+1]?=some (.loop (rec .ready none)):=by
  rw[<-hW1];have:=World.alloc_heap_new (w.alloc (.deferred (some []))) (.loop (rec .ready none));rwa[Cy]at this
 have hK1:W1.heap[w.heap.size]?=some (.deferred (some [])):=by
  rw[<-hW1];exact(JP _ _ _ Az).trans (World.alloc_heap_new w _)
 have hI1:AB 0 W1:=by rw[<-hW1];exact hI.alloc _ (hI.alloc _ h0)
 refine⟨w.heap.size+1,[{target:= .collected w.heap.size,args:= #[]}],W1,{target:= .fn (.func gf) lb,args:= #[.func (.yield (w.heap.size+1)) #[] #[]]},W1,gf,
  #[.func (.yield (w.heap.size+1)) #[] #[]]++lb,W1,?_,?_,λ_ _=>trivial,?_,λ_=>AQ,?_⟩
 .rw[<-hW1,hrec];exact run_enterLoop_outer _ _ _ _ _
 .simp only[resolve,hg];simp[go_sem]
 .simp[invoke,go_sem,eg]
 .refine(hseq (w.heap.size+1) (λi W=>AB i W/\W.heap[w.heap.size+1]?=some (.loop (rec .ready none))/\W.heap[w.heap.size]?=some (.deferred (some [])))
   (λch W=>Ip ch W/\W.heap[w.heap.size]?=some (.deferred (some []))) W1 (λ_ _ h=>h.1) (λi W h hw=>⟨ABu i W h.1 hw,h.2⟩) ?_ ⟨hI1,hL1,hK1⟩).mono ?_
  .rintro i W hik hw ⟨hi,hl,hk⟩;have hlt:w.heap.size+1<W.heap.size:=(gE hl).1;have hy:=run_yield (P:=P) (args:= #[.int .i64 i]) hl (by rw[hrec];rfl);rw[hrec]at hy;dsimp only at hy;rw[show Array.foldl (λ(tmps:Array Value) (x:Tmp×Value)=>match x with|(t,a)=>tmps.setIfInBounds t a) a.tmps (#[p].zip #[Value.int IntKind.i64 (i:tyI)])=a.tmps.setIfInBounds p (.int .i64 i)from by simp[Array.zip]]at hy;refine⟨fn,_,_,_,hy,mK hm hA hB ?_⟩;refine hassign i W _ ?_;refine⟨_,run_beginRound hl (by rw[hrec]),?_⟩;have hl2:(W.putObj (w.heap.size+1) (.loop {rec .ready none with state:= .busy})).heap[w.heap.size+1]?=some (.loop {rec .ready none with state:= .busy}):=World.putObj_heap_same hlt;have hk2:(W.putObj (w.heap.size+1) (.loop {rec .ready none with state:= .busy})).heap[w.heap.size]?=some (.deferred (some [])):=(World.putObj_heap_other J).trans hk;refine N6 (λe a3 W3 hp=>?_) _ _ _ _ (hbody i _ hik hw (hI.putObj _ hi J hl rfl) (by simp;omega));cases e with
   |normal=>
    obtain⟨hk3,hi3⟩:=hp;have hl3:=hk3.same _ _ J hl2 rfl;have hr:=run_endRound (P:=P) none hl3;have ABv:=hl3;rw[hrec]at hr hl3|-;exact⟨_,_,hr,.inl ⟨rfl,hI.putObj _ hi3 J ABv rfl,World.putObj_heap_same (gE ABv).1,(World.putObj_heap_other J).trans (hk3.same _ _ (A9 _) hk2 rfl)⟩⟩
   |panic ch=>
    obtain⟨hd,hk3,hi3⟩:=hp;exact⟨hd,.inr ⟨ch,rfl,hi3,hk3.same _ _ (A9 _) hk2 rfl⟩⟩
   |exit _=>exact hp.elim
   |goto _=>exact hp.elim
   |ret=>exact hp.elim
   |outgrown=>exact hp.elim
  .rintro e W2 (⟨v,rfl,hi,hl,hk⟩|⟨ch,rfl,hi,hk⟩)
   .exact⟨none,_,by have:=run_endLoop (P:=P) hl (by rw[hrec];simp);rw[hrec]at this;exact this,hdone _ _ (A9 _) (hI.putObj _ hi J hl rfl) ((World.putObj_heap_other J).trans hk)⟩
   .exact hpan _ ch W2 (A9 _) hi hk
end
theorem Ra{w w':tyW}{B e size n:tyN}{xs:List Value}(h:w.ownsRow B e size v n xs)(hk:∀k,v.ownBlock=some k->hSM w' w k):w'.ownsRow B e size v n xs:=by
 rcases h.2 with⟨hv,hn⟩|⟨g,cap,cur,hv,hg,hh,hr⟩
 .exact⟨h.1,.inl ⟨hv,hn⟩⟩
 .exact⟨h.1,.inr ⟨g,cap,cur,hv,hg,(hk g (by rw[hv];rfl)).trans hh,hr⟩⟩
theorem JD{w:tyW}{B e size n:tyN}{xs:List Value}(h:w.ownsRow B e size v n xs){k:tyN}(hk:v.ownBlock=some k):∃cs,BR w k cs e:=by
 rcases h.2 with⟨hv,hn⟩|⟨g,cap,cur,hv,hg,hh,hr⟩
 .rw[hv]at hk;cases hk
 .rw[hv]at hk;simp only[Value.ownBlock,Dt]at hk;subst hk;exact⟨cur,hh⟩
variable {w W W':tyW}{g B:tyN}{s s':TS}
theorem A5.stay(h:A5 W g B st s)(hs:W.heap.size<=W'.heap.size)(hk:∀k,(k<=g\/MP W g k)->hSM W' W k):A5 W' g B st s:=by
 have hgg:=hk g (.inl (A9 _));refine⟨h.gB,DB h.sz hs,(Ak hgg).trans h.c0,λj=>(Fm hgg).trans (h.fz j),?_,?_,?_,?_,h.la,h.lb,h.ll⟩
 .obtain⟨A,c,h1,h2,h3⟩:=h.ans;exact⟨A,c,(Ak hgg).trans h1,Ew h2 (λb off e hp=>hk b (.inl (by have:=h3 b off e hp;omega))),h3⟩
 .obtain⟨v,h1,h2⟩:=h.loc;exact⟨v,(Ak hgg).trans h1,Ra h2 λk e=>hk k (.inr ⟨2,v,.inl rfl,h1,e⟩)⟩
 .obtain⟨v,h1,h2⟩:=h.acc;exact⟨v,(Ak hgg).trans h1,Ra h2 λk e=>hk k (.inr ⟨3,v,.inr (.inl rfl),h1,e⟩)⟩
 .obtain⟨v,h1,h2⟩:=h.Bi;exact⟨v,(Ak hgg).trans h1,Ra h2 λk e=>hk k (.inr ⟨4,v,.inr (.inr rfl),h1,e⟩)⟩
theorem A5.PN(h:A5 W g B st s){k:tyN}(hr:MP W g k):∃cs e,BR W k cs e:=by
 obtain⟨j,v,h1,h2,h3⟩:=hr;rcases h1 with rfl|rfl|rfl
 .obtain⟨u,q1,q2⟩:=h.loc;rw[q1]at h2;cases h2;exact⟨_,_,(JD q2 h3).choose_spec⟩
 .obtain⟨u,q1,q2⟩:=h.acc;rw[q1]at h2;cases h2;exact⟨_,_,(JD q2 h3).choose_spec⟩
 .obtain⟨u,q1,q2⟩:=h.Bi;rw[q1]at h2;cases h2;exact⟨_,_,(JD q2 h3).choose_spec⟩
structure Bx (w:tyW)(g B:tyN)(L:List (Nat×Array Value×TypeId))(W:tyW)(s:TS):Prop where
 gs:g<w.heap.size
 tape:AX W g B s
 tk:TK g B w W
 bx:∀p,p∈L->w.heap.size<=p.1/\BR W p.1 p.2.1 p.2.2/\¬MP W g p.1
 nd:(L.map Prod.fst).Nodup
variable {L L':List (Nat×Array Value×TypeId)}
theorem Bx.start(h:AX w g B s):Bx w g B [] w s:=⟨h.1.gs,h,TK.refl _ _ _,λp hp=>(by cases hp),.nil⟩
theorem Bx.perm(h:Bx w g B L W s)(hp:L.Perm L'):Bx w g B L' W s:=⟨h.gs,h.tape,h.tk,λp q=>h.bx p (hp.mem_iff.2 q),(hp.map _).nodup_iff.1 h.nd⟩
theorem Bx.tail{p:Nat×Array Value×TypeId}(h:Bx w g B (p::L) W s):Bx w g B L W s:=⟨h.gs,h.tape,h.tk,λp q=>h.bx p (.tail _ q),(Nc.1 h.nd).2⟩
theorem Bx.sub(h:Bx w g B L W s)(hs:L'.Sublist L):Bx w g B L' W s:=⟨h.gs,h.tape,h.tk,λp q=>h.bx p (hs.mem q),(hs.map _).nodup h.nd⟩
theorem Bx.gW(h:Bx w g B L W s):g<W.heap.size:=B5 h.gs h.tk.size
theorem Bx.call(h:Bx w g B L W s)(k:TK g B W W')(t:AX W' g B s'):Bx w g B L W' s':=
 ⟨h.gs,t,h.tk.trans k,λp hp=>by
  obtain⟨h1,h2,h3⟩:=h.bx p hp;have hlt:=(gE h2).1
  exact⟨h1,(k.keep h.gW p.1 hlt (by have:=h.gs;omega) h3).trans h2,λq=>(k.rows h.gW _ q).elim h3 λq=>EL _ (B5 hlt q)⟩,h.nd⟩
theorem Bx.up(h:Bx w g B L W s)(u:Up W W'):Bx w g B L W' s:=h.call (TK.Bp u) (h.tape.up u)
theorem Bx.alloc(h:Bx w g B L W s)(cs:Array Value)(t:TypeId):Bx w g B ((W.heap.size,cs,t)::L) (W.alloc (Y cs t)) s:=by
 have u:Up W (W.alloc (Y cs t)):=(AV W).alloc _;have h2:=h.up u;refine⟨h.gs,h2.tape,h2.tk,λp hp=>?_,Nc.2 ⟨λhm=>?_,h.nd⟩⟩
 .rcases BJ.1 hp with rfl|hp
  .refine⟨h.tk.size,Ah W _,λq=>?_⟩;obtain⟨cs,e,q2⟩:=h.tape.1.PN (q.same (u.block g h.gW));exact EL _ (gE q2).1
  .exact h2.bx p hp
 .obtain⟨p,hp,e⟩:=Cd.1 hm;have:=(gE (h.bx p hp).2.1).1;omega
theorem Bx.cell{cs:Array Value}(h:Bx w g B L W s)(hm:(q,cs,t)∈L)(j:tyN):W.cell? (aD q j)=cs[j]?:=Ar _ _ j _ _ _ (h.bx _ hm).2.1
theorem Bx.fE{cs:Array Value}(h:Bx w g B L W s)(hm:(q,cs,t)∈L)(j:tyN):W.frozen? (aD q j)=false:=D4 _ _ j _ _ (h.bx _ hm).2.1
theorem Bx.stay(h:Bx w g B L W s)(hs:W.heap.size<=W'.heap.size)(ho:W'.os=W.os)(ht:W'.tape=W.tape)(hu:W'.output=W.output)(hk:∀k,(k<w.heap.size\/MP W g k\/∃p,p∈L/\p.1=k)->hSM W' W k):Bx w g B L W' s:=by
 have hgg:=hk g (.inl h.gs)
 have tk:TK g B w W':=⟨ho.trans h.tk.os,ht.trans h.tk.tape,hu.trans h.tk.output,DB h.tk.size hs,λk q1 q2 q3=>(hk k (.inl q1)).trans (h.tk.block k q1 q2 q3),
  λq k q2=>h.tk.rows q k (q2.same hgg),λq k q1 q2 q3=>(hk k (.inl q1)).trans (h.tk.keep q k q1 q2 q3)⟩
 exact⟨h.gs,⟨h.tape.1.stay hs λk q=>hk k (q.imp (λq=>Ro q h.gs) .inl),h.tape.2⟩,tk,λp hp=>⟨(h.bx p hp).1,(hk p.1 (.inr (.inr ⟨p,hp,rfl⟩))).trans (h.bx p hp).2.1,λq=>(h.bx p hp).2.2 (q.same hgg)⟩,h.nd⟩
theorem Bx.grow{row:Option Nat}(h:Bx w g B L W s)(hg:W.grownBy W' row)(hr:∀r,row=some r->w.heap.size<=r/\∃o:Obj,W.heap[r]?=some o/\o.isCells=false):Bx w g B L W' s:=by
 refine h.stay hg.size hg.os hg.tape hg.output λk q=>?_
 have not:∀cs e,BR W k cs e->some k≠row:=λcs e q2 q3=>by
  obtain⟨_,o,q4,q5⟩:=hr k q3.symm;rw[q2]at q4;cases q4;cases q5
 rcases q with q|q|⟨p,hp,rfl⟩
 .exact hg.block k (B5 q h.tk.size) λe=>by have:=(hr k e.symm).1;omega
 .obtain⟨cs,e,q2⟩:=h.tape.1.PN q;exact hg.block k (gE q2).1 (not _ _ q2)
 .have q2:=(h.bx p hp).2.1;exact hg.block p.1 (gE q2).1 (not _ _ q2)
theorem Bx.put(h:Bx w g B ((q,#[v],t)::L) W s)(u:tyV):Bx w g B ((q,#[u],t)::L) (W.setCell (aD q 0) u) s:=by
 obtain⟨h1,h2,h3⟩:=h.bx _ (.head _);have hq:g≠q:=by have:=h.gs;dsimp only at h1;omega
 have hkp:∀k,k≠q->hSM (W.setCell (aD q 0) u) W k:=λk hk=>BF W ⟨q,0,none⟩ u k hk
 have hnd:=Nc.1 h.nd
 have h4:Bx w g B L (W.setCell (aD q 0) u) s:=h.tail.stay Az rfl rfl rfl λk hk=>hkp k λe=>by
  rcases hk with hk|hk|⟨p,hp,e2⟩
  .dsimp only at h1;omega
  .exact h3 (by rw[e]at hk;exact hk)
  .exact hnd.1 (Cd.2 ⟨p,hp,e2.trans e⟩)
 refine⟨h4.gs,h4.tape,h4.tk,λp hp=>?_,h.nd⟩;rcases BJ.1 hp with rfl|hp
 .exact⟨h1,by simp[World.setCell,l9,h2],λq2=>h3 (q2.same (hkp g hq))⟩
 .exact h4.bx p hp
theorem TK.off(h:TK g B w W)(hg:g<w.heap.size)(hD:w.heap.size<=D)(o:Obj):TK g B w (W.putObj D o):=by
 have hk:∀k,k<w.heap.size->hSM (W.putObj D o) W k:=λk q=>World.putObj_heap_other J
 exact⟨h.os,h.tape,h.output,by simpa using h.size,λk q1 q2 q3=>(hk k q1).trans (h.block k q1 q2 q3),λq k q2=>h.rows q k (q2.same (hk g hg)),λq k q1 q2 q3=>(hk k q1).trans (h.keep q k q1 q2 q3)⟩
theorem A5.off(h:A5 W g B st s)(hD:g<D)(o:Obj){o':Obj}(ho:W.heap[D]?=some o')(hc:o'.isCells=false):A5 (W.putObj D o) g B st s:=
 h.stay Az λk q=>World.putObj_heap_other λe=>by
  subst e;rcases q with q|q
  .omega
  .obtain⟨cs,e,q2⟩:=h.PN q;rw[ho]at q2;cases q2;cases hc
theorem A5.JD(h:A5 W g B st s):∃o:Obj,W.heap[g]?=some o/\o.isCells=true:=cells_of_cell h.c0
theorem TK.Qb(k:TK g B W W')(h:A5 W g B st s){o:Obj}(ho:W.heap[D]?=some o)(hc:o.isCells=false):W'.heap[D]?=some o:=
 (k.block D (gE ho).1 (λe=>by
  subst e;obtain⟨o',q1,q2⟩:=h.JD
  rw[ho]at q1;cases q1;rw[hc]at q2;cases q2) λ_ cs e q=>by rw[ho]at q;cases q;cases hc).trans ho
theorem TK.keeps(k:TK g B W W')(h:A5 W g B st s)(B0:tyN):KeepsFrom B0 W W':=⟨k.size,λD o _ ho hc=>k.Qb h ho hc⟩
end
section
open Go.RowKit
structure Ch where
 a:AD
 lo:Nat
 its:List Item
 l:List Int
 l':List Int
 res:Option Int
variable {α β:Type}
def Op.sub (f:AD->Op Int):Op α->Op α
 | .ret v=> .ret v
 | .ask a k=>(f a).bind λx=>(k x).sub f
 | .get i k=> .get i λx=>(k x).sub f
 | .set i v k=> .set i v (k.sub f)
 | .note c k=> .note c (k.sub f)
 | .live k=> .live λb=>(k b).sub f
theorem Ja(f:AD->Op Int):∀(o:Op α) (k:α->Op β),(o.bind k).sub f=(o.sub f).bind λv=>(k v).sub f
 | .ret v,k=>rfl
 | .ask a g,k=>by
  show(f a).bind (λx=>((g x).bind k).sub f)=((f a).bind λx=>(g x).sub f).bind _;rw[bind_assoc'];congr 1
  funext x
  exact Ja f (g x) k
 | .get i g,k=>by
  show Op.get i _=Op.get i _;congr 1;funext x;exact Ja f (g x) k
 | .set i v g,k=>by
  show Op.set i v _=Op.set i v _;congr 1;exact Ja f g k
 | .note c g,k=>by
  show Op.note c _=Op.note c _;congr 1;exact Ja f g k
 | .live g,k=>by
  show Op.live _=Op.live _;congr 1;funext x;exact Ja f (g x) k
 where bind_assoc' {α β γ:Type}:∀(o:Op α) (f:α->Op β) (g:β->Op γ),(o.bind f).bind g=o.bind λv=>(f v).bind g
 | .ret v,f,g=>rfl
 | .ask a k,f,g=>by
  show Op.ask a _=Op.ask a _;congr 1;funext x;exact bind_assoc' (k x) f g
 | .get i k,f,g=>by
  show Op.get i _=Op.get i _;congr 1;funext x;exact bind_assoc' (k x) f g
 | .set i v k,f,g=>by
  show Op.set i v _=Op.set i v _;congr 1;exact bind_assoc' k f g
 | .note c k,f,g=>by
  show Op.note c _=Op.note c _;congr 1;exact bind_assoc' k f g
 | .live k,f,g=>by
  show Op.live _=Op.live _;congr 1;funext x;exact bind_assoc' (k x) f g
inductive DE (f:AD->Op Int):Op α->List Int->Nat->List Item->List Ch->Op α->List Int->Prop where
 |nil (o:Op α) (l:tyL) (lo:tyN):DE f o l lo [] [] o l
 |get {i:tyI} {k:Int->Op α} {l l':tyL} {lo:tyN} {L:List Item} {K:List Ch} {o':Op α} (h:DE f (k (Ac l i)) l lo L K o' l'):DE f (.get i k) l lo L K o' l'
 |set {i v:tyI} {k:Op α} {l l':tyL} {lo:tyN} {L:List Item} {K:List Ch} {o':Op α} (h:DE f k (I4 l i v) lo L K o' l'):DE f (.set i v k) l lo L K o' l'
 |live {k:Bool->Op α} {l l':tyL} {lo:tyN} {L:List Item} {K:List Ch} {o':Op α} (h:DE f (k true) l lo L K o' l'):DE f (.live k) l lo L K o' l'
 |note {c:tyI} {k:Op α} {l l':tyL} {lo:tyN} {L:List Item} {K:List Ch} {o':Op α} (p:tyN) (h:DE f k l p L K o' l'):DE f (.note c k) l lo (.note c p::L) K o' l'
 |ask {a:AD} {k:Int->Op α} {l l1 l':tyL} {lo:tyN} {L1 L:List Item} {K:List Ch} {o':Op α} {x:tyI} (h1:Path (f a) l L1 (.ret x) l1) (h:DE f (k x) l1 (AM lo L1) L K o' l'):
  DE f (.ask a k) l lo (L1++L) (⟨a,lo,L1,l,l1,some x⟩::K) o' l'
 |stop {a:AD} {k:Int->Op α} {l l1:tyL} {lo:tyN} {L1:List Item} {o1:Op Int} (h1:Path (f a) l L1 o1 l1) (hn:∀x,o1≠ .ret x) (h0:L1≠[]):DE f (.ask a k) l lo L1 [⟨a,lo,L1,l,l1,none⟩] (.ask a k) l1
theorem pg{f:AD->Op Int}{o:Op α}{v:α}(h:o.sub f= .ret v)(hf:∀a x,f a≠ .ret x):o= .ret v:=by
 cases o with
 |ret u=>exact h
 |ask a k=>
  exfalso;have h1:(f a).bind (λx=>(k x).sub f)= .ret v:=h;cases e:f a with
  |ret x=>exact hf a x e
  |ask a k=>rw[e]at h1;cases h1
  |get i k=>rw[e]at h1;cases h1
  |set i v k=>rw[e]at h1;cases h1
  |note c k=>rw[e]at h1;cases h1
  |live k=>rw[e]at h1;cases h1
 |get i k=>cases h
 |set i v k=>cases h
 |note c k=>cases h
 |live k=>cases h
theorem bh{f:AD->Op Int}(hf:∀a x,f a≠ .ret x):∀(o:Op α) {l:tyL} {L:List Item} {o2:Op α} {l2:tyL},Path (o.sub f) l L o2 l2->∀lo,∃K o' l',DE f o l lo L K o' l'/\∀v,o2= .ret v->o'= .ret v/\l'=l2:=λo=>by
 induction o with
 |ret v=>
  intro l L o2 l2 h lo;have h':Path (.ret v) l L o2 l2:=h;cases h'
  exact⟨[],_,_,.nil _ _ _,λu e=>⟨e,rfl⟩⟩
 |ask a k ih=>
  intro l L o2 l2 h lo;rcases Path.bind (show Path ((f a).bind λx=>(k x).sub f) l L o2 l2 from h)with⟨o1,h1,h2⟩|⟨x,L1,L2,l1,rfl,h2,h3⟩
  .by_cases hr:∃x,o1= .ret x
   .obtain⟨x,rfl⟩:=hr;have h3:=DE.ask (k:=k) h2 (.nil (f:=f) (k x) l2 (AM lo L));rw[Jc]at h3;refine⟨_,_,_,h3,λv e=>?_⟩;rw[e]at h1;exact⟨pg (o:=k x) h1.symm hf,rfl⟩
   .by_cases h0:L=[]
    .subst h0;refine⟨[],.ask a k,l,.nil _ _ _,λv e=>?_⟩;rw[e]at h1;cases o1 with
     |ret x=>exact absurd ⟨x,rfl⟩ hr
     |ask a k=>cases h1
     |get i k=>cases h1
     |set i v k=>cases h1
     |note c k=>cases h1
     |live k=>cases h1
    .refine⟨_,_,_,.stop h2 (λx e=>hr ⟨x,e⟩) h0,λv e=>?_⟩;rw[e]at h1;cases o1 with
     |ret x=>exact absurd ⟨x,rfl⟩ hr
     |ask a k=>cases h1
     |get i k=>cases h1
     |set i v k=>cases h1
     |note c k=>cases h1
     |live k=>cases h1
  .obtain⟨K,o',l',h4,h5⟩:=ih x h3 (AM lo L1);exact⟨_,_,_,.ask h2 h4,h5⟩
 |get i k ih=>
  intro l L o2 l2 h lo;have h':Path (.get i λx=>(k x).sub f) l L o2 l2:=h;cases h' with
  |nil=>exact⟨[],_,_,.nil _ _ _,λv e=>by cases e⟩
  |get h2=>
   obtain⟨K,o',l',h4,h5⟩:=ih _ h2 lo;exact⟨_,_,_,.get h4,h5⟩
 |set i v k ih=>
  intro l L o2 l2 h lo;have h':Path (.set i v (k.sub f)) l L o2 l2:=h;cases h' with
  |nil=>exact⟨[],_,_,.nil _ _ _,λv e=>by cases e⟩
  |set h2=>
   obtain⟨K,o',l',h4,h5⟩:=ih h2 lo;exact⟨_,_,_,.set h4,h5⟩
 |note c k ih=>
  intro l L o2 l2 h lo;have h':Path (.note c (k.sub f)) l L o2 l2:=h;cases h' with
  |nil=>exact⟨[],_,_,.nil _ _ _,λv e=>by cases e⟩
  |note p h2=>
   obtain⟨K,o',l',h4,h5⟩:=ih h2 p;exact⟨_,_,_,.note p h4,h5⟩
 |live k ih=>
  intro l L o2 l2 h lo;have h':Path (.live λb=>(k b).sub f) l L o2 l2:=h;cases h' with
  |nil=>exact⟨[],_,_,.nil _ _ _,λv e=>by cases e⟩
  |live h2=>
   obtain⟨K,o',l',h4,h5⟩:=ih _ h2 lo;exact⟨_,_,_,.live h4,h5⟩
def Bk (f:AD->Op Int)(rg:Int->Prop)(N:tyN):Nat->(Int->Int)->List Ch->Prop
 |_,_,[]=>True
 |lo,σ,u::U=>lo<=u.lo/\Seq u.lo u.its/\AM u.lo u.its<=N/\(∀i,rg i->Ac u.l i=σ i)/\(∃o,Path (f u.a) u.l u.its o u.l'/\∀v,u.res=some v->o= .ret v)/\(u.res=none->U=[])/\Bk f rg N (AM u.lo u.its) (Ac u.l') U
def cM:Nat->List Ch->Nat
 |lo,[]=>lo
 |_,u::U=>cM (AM u.lo u.its) U
def Yb:(Int->Int)->List Ch->Int->Int
 |σ,[]=>σ
 |_,u::U=>Yb (Ac u.l') U
def NT (U:List Ch):Prop:= ∀u,u∈U->∃v,u.res=some v
theorem Bk.low{f:AD->Op Int}{lo':tyN}{σ:Int->Int}{U:List Ch}(h:Bk f rg N lo σ U)(hl:lo'<=lo):Bk f rg N lo' σ U:=by
 cases U with
 |nil=>trivial
 |cons u U=>exact⟨DB hl h.1,h.2⟩
theorem Bk.congr{f:AD->Op Int}{σ σ':Int->Int}{U:List Ch}(h:Bk f rg N lo σ U)(hs:∀i,rg i->σ i=σ' i):Bk f rg N lo σ' U:=by
 cases U with
 |nil=>trivial
 |cons u U=>exact⟨h.1,h.2.1,h.2.2.1,λi hi=>(h.2.2.2.1 i hi).trans (hs i hi),h.2.2.2.2⟩
theorem Ij{σ σ':Int->Int}(U:List Ch)(hs:∀i,rg i->σ i=σ' i):∀i,rg i->Yb σ U i=Yb σ' U i:=by
 cases U with
 |nil=>exact hs
 |cons u U=>exact λ_ _=>rfl
theorem Bk.append{f:AD->Op Int}{rg:Int->Prop}{N:tyN}{AF:List Ch}:∀{U:List Ch} {lo:tyN} {σ:Int->Int},Bk f rg N lo σ U->(AF≠[]->NT U)->Bk f rg N (cM lo U) (Yb σ U) AF->Bk f rg N lo σ (U++AF)
 |[],lo,σ,h,hd,h2=>h2
 |u::U,lo,σ,h,hd,h2=>by
  obtain⟨h3,h4,h5,h6,h7,h8,h9⟩:=h;refine⟨h3,h4,h5,h6,h7,λe=>?_,Bk.append h9 (λhv w hw=>hd hv w (kC _ hw)) h2⟩;cases AF with
  |nil=>rw[h8 e];rfl
  |cons v AF=>
   obtain⟨x,hx⟩:=hd Az u (.head _);rw[hx]at e;cases e
theorem DE.acc{f:AD->Op Int}{o o':Op α}{K:List Ch}(h:DE f o l lo L K o' l'){a:AD}{b e:tyN}{x:tyI}:Item.acc a b e x∈L↔∃u,u∈K/\Item.acc a b e x∈u.its:=by
 induction h with
 |nil=>simp
 |get _ ih=>exact ih
 |set _ ih=>exact ih
 |live _ ih=>exact ih
 |note p _ ih=>rw[<-ih];simp
 |ask h1 _ ih=>rw[Cs,ih];simp
 |stop=>simp
theorem DE.all{f:AD->Op Int}{o o':Op α}{K:List Ch}(h:DE f o l lo L K o' l'){Q:AD->Prop}(hq:o.all Q):∀u,u∈K->Q u.a:=by
 induction h with
 |nil=>intro u hu;cases hu
 |get _ ih=>exact ih (hq _)
 |set _ ih=>exact ih hq
 |live _ ih=>exact ih (hq _)
 |note p _ ih=>exact ih hq
 |ask h1 _ ih=>
  intro u hu;rcases BJ.1 hu with rfl|hu
  .exact hq.1
  .exact ih (hq.2 _) u hu
 |stop=>
  intro u hu;rw[Bq]at hu;subst hu;exact hq.1
theorem DE.done{f:AD->Op Int}{o o':Op α}{K:List Ch}(h:DE f o l lo L K o' l'){v:α}(hr:o'= .ret v):NT K:=by
 induction h with
 |nil=>intro u hu;cases hu
 |get _ ih=>exact ih hr
 |set _ ih=>exact ih hr
 |live _ ih=>exact ih hr
 |note p _ ih=>exact ih hr
 |ask h1 _ ih=>
  intro u hu;rcases BJ.1 hu with rfl|hu
  .exact⟨_,rfl⟩
  .exact ih hr u hu
 |stop=>cases hr
theorem DE.uses{f:AD->Op Int}{o o':Op α}{K:List Ch}(h:DE f o l lo L K o' l')(hs:Seq lo L)(hN:AM lo L<=N)(hrg:∀i,rg i->0<=i/\i<32768){on:AD->Bool}
  (hk:∀i,rg i->o.keeps i) (hq:o.all λa=>on a=false->∀i,rg i->(f a).keeps i):
  Bk f rg N lo (Ac l) (K.filter λu=>on u.a)/\(∀i,rg i->Ac l' i=Yb (Ac l) (K.filter λu=>on u.a) i)/\cM lo (K.filter λu=>on u.a)<=AM lo L:=by
 induction h with
 |nil=>exact⟨trivial,λ_ _=>rfl,A9 _⟩
 |get _ ih=>exact ih hs hN (λi hi=>hk i hi _) (hq _)
 | @set i v k l l' lo L K o' h ih=>
  have e:∀j,rg j->Ac (I4 l i v) j=Ac l j:=λj hj=>by
   rw[CG _ _ _ _ (hrg j hj),AI (hk j hj).1]
  obtain⟨h1,h2,h3⟩:=ih hs hN (λi hi=>(hk i hi).2) hq;exact⟨h1.congr e,λj hj=>(h2 j hj).trans (Ij _ e j hj),h3⟩
 |live _ ih=>exact ih hs hN (λi hi=>hk i hi _) (hq _)
 | @note c k l l' lo L K o' p h ih=>
  obtain⟨h1,h2,h3⟩:=ih hs.2 hN hk hq;refine⟨h1.low (BP hs.1),h2,?_⟩;have hp:=hs.1;cases e:K.filter λu=>on u.a with
  |nil=>
   show lo<=_;have:=Seq.A7 (L:=L) hs.2;exact DB (BP hp) this
  |cons u U=>rw[e]at h3;exact h3
 | @ask a k l l1 l' lo L1 L K o' x h1 h ih=>
  rw[AY]at hN|-;obtain⟨s1,s2⟩:=Seq.append.1 hs;have hl:=Seq.A7 s2;obtain⟨g1,g2,g3⟩:=ih s2 hN (λi hi=>hk i hi _) (hq.2 _);cases ho:on a with
  |true=>
   rw[I2 (by exact ho)];exact⟨⟨A9 _,s1,DB hl hN,λi _=>rfl,⟨_,h1,λv e=>(by cases e;rfl)⟩,λe=>(by cases e),g1⟩,g2,g3⟩
  |false=>
   have e:∀j,rg j->Ac l1 j=Ac l j:=λj hj=>h1.keeps (hrg j hj) (hq.1 ho j hj)
   rw[FY (by rw[ho];simp)];refine⟨(g1.congr e).low (Seq.A7 s1),λj hj=>(g2 j hj).trans (Ij _ e j hj),?_⟩;cases e2:K.filter λu=>on u.a with
   |nil=>exact DB (Seq.A7 s1) hl
   |cons u U=>rw[e2]at g3;exact g3
 | @stop a k l l1 lo L1 o1 h1 hn h0=>
  cases ho:on a with
  |true=>
   rw[I2 (by exact ho)];exact⟨⟨A9 _,hs,hN,λi _=>rfl,⟨_,h1,λv e=>(by cases e)⟩,λ_=>rfl,trivial⟩,λ_ _=>rfl,A9 _⟩
  |false=>
   rw[FY (by rw[ho];simp)];exact⟨trivial,λj hj=>h1.keeps (hrg j hj) (hq.1 ho j hj),Seq.A7 hs⟩
theorem Bk.parts{T:AD->Op Int}{g:AD->Op Int}(hg:∀a x,g a≠ .ret x){RG:Int->Prop}{N:tyN}:∀{U:List Ch} {lo:tyN} {σ:Int->Int},Bk (λa=>(T a).sub g) RG N lo σ U->
  ∃W:List (Ch×List Ch),W.map Prod.fst=U/\(∀u K,(u,K)∈W->∃o' l',DE g (T u.a) u.l u.lo u.its K o' l'/\∀v,u.res=some v->o'= .ret v/\l'=u.l')/\
   ∀(rg:Int->Prop) (on:AD->Bool),(∀i,rg i->RG i/\0<=i/\i<32768)->(∀u,u∈U->(∀i,rg i->(T u.a).keeps i)/\(T u.a).all λa=>on a=false->∀i,rg i->(g a).keeps i)->
    Bk g rg N lo σ ((W.flatMap Prod.snd).filter λu=>on u.a)
 |[],lo,σ,h=>⟨[],rfl,λu K hm=>by(cases hm),λrg on _ _=>trivial⟩
 |u::U,lo,σ,h=>by
  obtain⟨h3,h4,h5,h6,⟨o2,h7,h7'⟩,h8,h9⟩:=h;obtain⟨W,w1,w2,w3⟩:=Bk.parts hg h9;obtain⟨K,o',l',d1,d2⟩:=bh hg (T u.a) h7 u.lo;have hd:∀v,u.res=some v->o'= .ret v/\l'=u.l':=λv e=>d2 v (h7' v e)
  refine⟨(u,K)::W,by rw[Gf,w1],λu' K' hm=>?_,λrg on hrg hT=>?_⟩
  .rcases BJ.1 hm with e|hm
   .cases e;exact⟨o',l',d1,hd⟩
   .exact w2 u' K' hm
  .obtain⟨t1,t2⟩:=hT u (.head _);obtain⟨g1,g2,g3⟩:=d1.uses h4 h5 (λi hi=>(hrg i hi).2) t1 t2;have h10:=w3 rg on hrg λu hu=>hT u (.tail _ hu)
   show Bk g rg N lo σ ((K++W.flatMap Prod.snd).filter _);rw[IV];refine Bk.append ((g1.congr λi hi=>h6 i (hrg i hi).1).low h3) (λhne=>?_) ?_
   .cases hr:u.res with
    |some v=>exact λw hw=>d1.done (hd v hr).1 w ((Db.1 hw).1)
    |none=>
     have hU:=h8 hr;subst hU;cases W with
     |nil=>exact absurd rfl hne
     |cons a b=>cases w1
   .cases hr:u.res with
    |some v=>
     rw[(hd v hr).2]at g2;refine(h10.congr λi hi=>?_).low ?_
     .rw[g2 i hi];exact Ij _ (λi hi=>h6 i (hrg i hi).1) i hi
     .have hle:=g3;cases e2:K.filter λu=>on u.a with
      |nil=>exact DB h3 (Seq.A7 h4)
      |cons a b=>rw[e2]at hle;exact hle
    |none=>
     have hU:=h8 hr;subst hU;cases W with
     |nil=>trivial
     |cons a b=>cases w1
end
section
open Go.RowKit
def CT (v:tyI):Int:=if v=0 then 0 else 1
def Hs (b lo y z:tyI)(k:Op Int):Op Int:=
 if y=z then k else .get ((lo+2)) λg=> .ask (2,(b+2),wrap64 (1-g)) λ_=> .set ((lo+2)) (wrap64 (1-g)) k
def KT (b lo x:tyI):Op Int:=
 .ask (1,b,0) λv=> .set ((lo+3)) v (.ask (1,(b+1),0) λy=> .get ((lo+2)) λz=>
  if y=z then .get ((lo+3)) .ret else .ask (1,b,0) λu=> .set ((lo+3)) u (.ret x))
def qM (b lo:tyI):Op Int:=
 .ask (1,(b+1),0) λx=> .get ((lo+2)) λy=>if x=y then .get ((lo+3)) .ret else
  .ask (1,b,0) λx=> .ask (1,(b+1),0) λy=> .get ((lo+2)) λz=>Hs b lo y z (KT b lo x)
def oY (b lo β:tyI):Op Int:=
 .ask (2,b,β) λ_=> .set lo β (.get ((lo+1)) λg=>
  .ask (1,(b+2),0) λy=>if y=g then .ask (2,(b+1),wrap64 (1-g)) λ_=> .set ((lo+1)) (wrap64 (1-g)) (.ret 0)else .ret 0)
def yk (b lo v:tyI):Op Unit:=
 .get lo λx=>if x=CT v then .ret ()else .ask (2,b,CT v) λ_=> .set lo (CT v) (.get ((lo+1)) λg=>
  .ask (1,(b+2),0) λy=>if y=g then .ask (2,(b+1),wrap64 (1-g)) λ_=> .set ((lo+1)) (wrap64 (1-g)) (.ret ())else .ret ())
def Ix (b lo:tyI)(a:AD):Op Int:=if a.1=1 then qM b lo else oY b lo a.2.2
def Df (v:tyI):Int:=if v=0 then 1 else 0
def lZ (b lo v:tyI)(k:Op Int):Op Int:= .get lo λx=>if x=v then k else .ask (2,b,v) λ_=>k
def qp (b lo v:tyI):Op Int:=
 .ask (1,b+13,0) λy=> .get (lo+Df y) λs=> .ask (2,b+(2*Df y+Df s),v) λ_=> .set (lo+Df y) (Df s)
  (lZ (b+(4+3*Df y)) (lo+(2+4*Df y)) (Df s) (lZ (b+10) (lo+10) (Df y) (.ret 0)))
def rG (b lo:tyI):Op Int:=
 .ask (1,b+10,0) λy=>lZ (b+13) (lo+14) (CT y) (.ask (1,b+(4+3*CT y),0) λz=> .ask (1,b+(2*CT y+CT z),0) .ret)
def Pd (b lo:tyI)(a:AD):Op Int:=
 if a.2.1<b+4 then .ask a .ret else if a.2.1<b+7 then Ix (b+4) (lo+2) a else if a.2.1<b+10 then Ix (b+7) (lo+6) a else if a.2.1<b+13 then Ix (b+10) (lo+10) a else Ix (b+13) (lo+14) a
def cf (b lo:tyI)(a:AD):Op Int:=if a.1=1 then rG b lo else qp b lo a.2.2
def SR (b lo:tyI)(a:AD):Op Int:=(cf b lo a).sub (Pd b lo)
def Dg (hi lo top:tyI):Int:=AZ hi 1048576*(AZ top 1048576+1)+AZ lo (AZ top 1048576)
def B4 (x top:tyI):Int:=BC x 0 4398046511104%(AZ top 1048576+1)
def DW (x top:tyI):Int:=BC x 0 4398046511104/(AZ top 1048576+1)
def FQ (k a c:tyN):Nat:=k+a*(k-1)+(if a<c then c-1 else c)
def BO (b:tyI)(a:tyN):Int:=b+16*(a:tyI)
def A8 (b:tyI)(k a c:tyN):Int:=b+16*(FQ k a c:tyI)
def Ce (k a:tyN):List Nat:=(List.range k).filter λc=>decide (c≠a)
def De (x:tyI):List Int->Op Int->Op Int
 |[],k=>k
 |c::cs,k=> .ask (2,c,x) λ_=>De x cs k
def MU:List Int->Int->(Int->Op Int)->Op Int
 |[],x,k=>k x
 |c::cs,x,k=> .ask (1,c,0) λy=>MU cs (max x y) k
def R1 (b lo:tyI)(k:tyN)(top v:tyI):Op Int:=
 .get lo λs=> .set lo (wrap64 (s+1)) (De (Dg (wrap64 (s+1)) v top) ((List.range k).map (BO b)) (.ret 0))
def MF (b:tyI)(k a:tyN)(top:tyI):Op Int:=
 .ask (1,BO b a,0) λx=>MU ((Ce k a).map λc=>A8 b k c a) x λx=>De x ((Ce k a).map λc=>A8 b k a c) (.ret (B4 x top))
def MH (b lo:tyI)(a:AD):Op Int:=SR a.2.1 (lo+(2+18*((a.2.1-b)/16))) a
def CL (w t:tyN):Nat:=if w<t then t-1 else t
def jO (b lo:tyI)(n w:tyN)(top:tyI)(t:tyN)(a:AD):Op Int:=if a.1=1 then MF b (n-1) (CL w t) top else R1 b lo (n-1) top a.2.2
def RX (b lo:tyI)(n w:tyN)(top:tyI)(t:tyN)(a:AD):Op Int:=(jO b lo n w top t a).sub (MH b lo)
theorem QZ(t:tyI):0<=AZ t 1048576/\AZ t 1048576<=1048576:=by
 rcases Fe t 1048576 with⟨_,h⟩|⟨_,_,_,_,h⟩|⟨_,_,_,_,h⟩|⟨_,_,_,_,h⟩<;>rw[h]<;>omega
theorem RN(hi lo top:tyI)(w:tyW):Calls Tryz.prog 293 #[hi,lo,top] w λe w'=>e=BA (O (Dg hi lo top))/\w'=w:=by
 have HP:=I (show Dg hi lo top=AZ hi 1048576*(AZ top 1048576+1)+AZ lo (AZ top 1048576)from rfl);have HA:=I (λW=>Cu top 1048576 W);have HB:=I (λW=>Cu hi 1048576 W);have HC:=I (λW=>Cu lo (AZ top 1048576) W);have ht:=QZ top;have hh:=QZ hi;have hl:=eb lo (AZ top 1048576);generalize AZ top 1048576=t at*;generalize AZ hi 1048576=h at*;generalize AZ lo t=l at*;generalize Dg hi lo top=r at*;have hm:0<=h*(t+1)/\h*(t+1)<=1048576*1048577:=⟨aI hh.1 J,vw hh.2 J J J⟩;have x1:wrap64 (t+1)=t+1:=IntWalk.wrap64_in _ J;have x2:wrap64 (h*(t+1))=h*(t+1):=IntWalk.wrap64_in _ J;have X3:=I (show wrap64 (h*(t+1)+l)=r from by rw[IntWalk.wrap64_in _ J];exact HP.symm);clear ht hh hl hm HP;go_enter Tryz.func293,Tryz.ntmps293;go_wp2_with fail;refine(HA _).mono ?_;rintro e _ ⟨rfl,rfl⟩;go_wp2_with fail;refine(HB _).mono ?_;rintro e _ ⟨rfl,rfl⟩;go_wp2_with fail;refine(HC _).mono ?_;rintro e _ ⟨rfl,rfl⟩;go_wp2_with fail;rw[X3.out];go_ret;exact⟨rfl,rfl⟩
theorem RI(x top:tyI)(w:tyW):Calls Tryz.prog 289 #[x,top] w λe w'=>e=BA (.tuple #[O (DW x top),O (B4 x top)])/\Up w w':=by
 have HA:=I (λW=>Cu top 1048576 W);have ht:=QZ top;have HS:=I (show DW x top=BC x 0 4398046511104/(AZ top 1048576+1)from rfl);have HV:=I (show B4 x top=BC x 0 4398046511104%(AZ top 1048576+1)from rfl)
 have hx:(x<0/\BC x 0 4398046511104=0)\/(0<=x/\4398046511104<x/\BC x 0 4398046511104=4398046511104)\/(0<x/\x<=4398046511104/\BC x 0 4398046511104=x)\/(x=0/\BC x 0 4398046511104=0):=by
  unfold BC;split
  .exact .inl ⟨J,rfl⟩
  split
  .exact .inr (.inl ⟨J,J,rfl⟩)
  .by_cases h:x=0
   .exact .inr (.inr (.inr ⟨h,h⟩))
   .exact .inr (.inr (.inl ⟨J,J,rfl⟩))
 generalize AZ top 1048576=t at*;generalize BC x 0 4398046511104=c at*;generalize DW x top=r at*;generalize B4 x top=q at*;have hc:0<=c/\c<=4398046511104:=J;have x1:wrap64 (t+1)=t+1:=IntWalk.wrap64_in _ J;have hq:0<=c/(t+1)/\c/(t+1)<=4398046511104:=⟨Int.ediv_nonneg hc.1 J,qm (Int.ediv_le_self _ hc.1) hc.2⟩;have x2:wrap64 (c.tdiv (t+1))=r:=by rw[Int.tdiv_eq_ediv_of_nonneg hc.1,IntWalk.wrap64_in _ J];exact HS.symm
 have x3:c.tmod (t+1)=q:=by rw[rH hc.1];exact HV.symm
 have hne:(t+1=0)=False:=by simp;omega
 have HQ:=I (show r=c/(t+1)/\q=c%(t+1)from⟨HS,HV⟩);clear hq hc HS HV;rcases hx with⟨h0,rfl⟩|⟨h0,h1,rfl⟩|⟨h0,h1,rfl⟩|⟨rfl,rfl⟩
 rotate_left
 iterate 2
  .go_enter Tryz.func289,Tryz.ntmps289;go_wp2_with fail;refine(HA _).mono ?_;rintro e _ ⟨rfl,rfl⟩;go_wp2_with fail;go_region
   go_wp2
   go_ret2;refine⟨?_,(AV _).drew⟩;rw[HQ.1,HQ.2]
   first|rfl|(simp;done)
 iterate 2
  .obtain⟨rfl,rfl⟩:r=0/\q=0:=by have:=HQ.out;simpa using this
   clear x2 x3;go_enter Tryz.func289,Tryz.ntmps289;go_wp2_with fail;refine(HA _).mono ?_;rintro e _ ⟨rfl,rfl⟩;go_wp2_with fail;go_region
   go_wp2
   go_ret2;exact⟨rfl,(AV _).drew⟩
end
section
open Go.RowKit Go.Shelf
attribute [local go_sem] Oper.semAt_some
theorem FJ(n:tyN)(w:tyW)(hn:1<=n/\n<=8):Calls Tryz.prog 186 #[n] w λe w'=>e=BA n/\w'=w:=by
 have e1:min (n:tyI) 8=n:=J;have e2:max 1 (n:tyI)=n:=J;go_enter Tryz.func186,Tryz.ntmps186;go_wp2_with fail
 all_goals
  go_ret;refine⟨?_,rfl⟩;refine DJ (λz=>Ending.returned (Value.int .i64 z)) ?_;omega
theorem Ox{w3:tyW}(u:Up w w3)(hq:w.heap.size<=q)(cs:Array Value):Up w (w3.setRow q cs):=
 ⟨u.os,u.tape,u.output,by simpa using u.size,λk hk=>(RU w3 q k cs J).trans (u.block k hk)⟩
theorem LN(w:tyW)(k b lo n wr rd tp:tyI):∃W,w.alloc (Y #[k,b,lo,n,wr,rd,tp] 130)=W/\Hid (Up w W)/\Hid (∀w',Up W w'->Ji w.heap.size k b lo n wr rd tp w'):=by
 have hb:=Ah w (Y (uq k b lo n wr rd tp) 130);refine⟨_,rfl,I ((AV w).alloc _),I λw' k2=>?_⟩;have hb':=(k2.block w.heap.size (gE hb).1).trans hb;exact⟨⟨Ar _ _ 0 _ _ _ hb',Ar _ _ 1 _ _ _ hb',Ar _ _ 2 _ _ _ hb',Ar _ _ 3 _ _ _ hb'⟩,Ar _ _ 4 _ _ _ hb',Ar _ _ 5 _ _ _ hb',Ar _ _ 6 _ _ _ hb'⟩
theorem Im(k b lo rd tp:tyI)(n wr:tyN)(w:tyW)(hn:1<=n/\n<=8)(hw:wr<n):Calls Tryz.prog 284 #[.agg #[k,b,lo,n,wr,rd,tp]] w λe w'=>e=BA wr/\Up w w':=by
 obtain⟨W,hW,HU,HS⟩:=LN w k b lo n wr rd tp;have HT:Hid (∀m,Calls Tryz.prog 186 #[n] (W.drewN m) λe w'=>e=BA n/\w'=W.drewN m):=I λm=>FJ n _ hn
 have h0:((wr:tyI)<0)=False:=Az;have h1:((n:tyI)<=wr)=False:=by simp;omega
 obtain⟨⟨c0,c1,c2,c3⟩,c4,c5,c6⟩:=HS W (AV _);clear hn hw;go_enter Tryz.func284,Tryz.ntmps284;go_wp2_with fail;go_quiet((go_at_call 186;exact Calls.quiet_of_same (HT _)))
 go_wp2
 go_ret;exact⟨rfl,HU.drewN _⟩
theorem eQ(k b lo rd tp:tyI)(n wr me:tyN)(w:tyW)(hn:1<=n/\n<=8)(hw:wr<n)(hm:me<n)(hne:me≠wr):Calls Tryz.prog 285 #[.agg #[k,b,lo,n,wr,rd,tp],me] w λe w'=>e=BA (.tuple #[O (CL wr me),true])/\Up w w':=by
 obtain⟨W,hW,HU,HS⟩:=LN w k b lo n wr rd tp;have HT:=I λW=>FJ n W hn
 have ZB:=I λW=>Im k b lo rd tp n wr W hn hw
 have h0:((me:tyI)<0)=False:=Az;have h1:((n:tyI)<=me)=False:=by simp;omega
 have h2:((me:tyI)==wr)=false:=by rw[Dy];omega
 have HR:=I (show CL wr me=if wr<me then me-1 else me from rfl);have hs:wrap64 ((me:tyI)-1)=(me:tyI)-1:=IntWalk.wrap64_in _ J;obtain⟨⟨c0,c1,c2,c3⟩,c4,c5,c6⟩:=HS W (AV _);have HM:=I hm;generalize CL wr me=rk at*;clear hn hw hne hm;go_enter Tryz.func285,Tryz.ntmps285;go_wp2_with fail;refine(ZB _).mono ?_;rintro e w1 ⟨rfl,hu1⟩;obtain⟨⟨c0,c1,c2,c3⟩,c4,c5,c6⟩:=HS w1 hu1;have GR:=I (HU.trans hu1);clear hu1;go_wp2_with fail;refine(HT _).mono ?_;rintro e _ ⟨rfl,rfl⟩;by_cases h3:wr<me
 .have h4:(wr:tyI)<me:=J;have HE:=I (show wrap64 ((me:tyI)-1)=rk from by rw[hs,HR,AK h3];omega);clear hs;go_wp2_with fail;rw[HE];go_ret2;exact⟨rfl,GR⟩
 .have h4:¬(wr:tyI)<me:=J;have HE:=I (show me=rk from by rw[HR,AI h3])
  go_wp2
  go_ret2;exact⟨by rw[<-HE];rfl,GR⟩
theorem Oz(k b lo n wr rd tp:tyI)(j:tyN)(w:tyW)(hb:0<=b/\b<=800000)(hl:0<=lo/\lo<=800000)(hj:j<=1000):Calls Tryz.prog 286 #[.agg #[k,b,lo,n,wr,rd,tp],j] w λe w'=>e=BA (.agg #[O 5,O (b+16*(j:tyI)),O (lo+(2+18*(j:tyI))),n,wr,rd,O 1099511627776])/\Up w w':=by
 have x1:=(C0 (16*(j:tyI)) J J).1;have x2:=(C0 (b+16*(j:tyI)) J J).1;have x3:=(C0 (18*(j:tyI)) J J).1;have x4:=(C0 (lo+2) J J).1;have x5:wrap64 (lo+2+18*(j:tyI))=lo+(2+18*(j:tyI)):=by rw[(C0 _ J J).1];omega
 clear hb hl hj;go_enter Tryz.func286,Tryz.ntmps286;go_wp2_with fail
 try rw[x5]
 generalize b+16*(j:tyI)=b' at*;generalize lo+(2+18*(j:tyI))=lo' at*;refine Gz (v:= .agg #[O 5,b',lo',n,wr,rd,O 1099511627776]) ?_ rfl ⟨rfl,((AV w).alloc _).alloc _⟩;have hs:(w.alloc (Y #[k,b,lo,n,wr,rd,tp] 130)).heap.size=w.heap.size+1:=Az;have hb:=Ah (w.alloc (Y #[k,b,lo,n,wr,rd,tp] 130)) (Y #[O 5,b',lo',n,wr,rd,O 1099511627776] 130);rw[hs]at hb;exact GV rfl _ _ (w.heap.size+1) 130 _ _ _ rfl hb Tryz.underlying130 rfl Ay
theorem iK{m c j a:tyN}(hj:j=q+m+(if a<c then c-1 else c))(hq:q<=7)(hm:m<=36)(hc:c<q):j<=1000/\(a<c->wrap64 ((q:tyI)+m+((c:tyI)-1))=j)/\(¬a<c->wrap64 ((q:tyI)+m+(c:tyI))=j):=by
 by_cases h:a<c
 .rw[AK h]at hj;exact⟨J,λ_=>by rw[(C0 _ J J).1];omega,λq=>absurd h q⟩
 .rw[AI h]at hj;exact⟨J,λq=>absurd q h,λ_=>by rw[(C0 _ J J).1];omega⟩
theorem Zx(k b lo n wr rd tp:tyI)(q a c:tyN)(w:tyW)(hb:0<=b/\b<=800000)(hl:0<=lo/\lo<=800000)(hq:1<=q/\q<=7)(ha:a<q)(hc:c<q)(hac:c≠a):Calls Tryz.prog 288 #[.agg #[k,b,lo,n,wr,rd,tp],q,a,c] w λe w'=>e=BA (.agg #[O 5,O (A8 b q a c),O (lo+(2+18*(FQ q a c:tyI))),n,wr,rd,O 1099511627776])/\Up w w':=by
 obtain⟨W,hW,HU,HS⟩:=LN w k b lo n wr rd tp;obtain⟨m,hm⟩:∃m:Nat,a*(q-1)=m:=⟨_,rfl⟩;have hm2:m<=6*6:=by rw[<-hm];exact LZ J J
 obtain⟨j,hj⟩:=gX (FQ q a c);have hj2:j=q+m+(if a<c then c-1 else c):=by rw[<-hj,<-hm];rfl
 have hN:=iK hj2 hq.2 hm2 hc;have uT:=I λW=>Oz k b lo n wr rd tp j W hb hl hN.1
 have HT:=I (show A8 b q a c=b+16*(j:tyI)from by unfold A8;rw[hj]);rw[HT,hj];have HJ:=I hN.2
 have x2:wrap64 ((a:tyI)*((q:tyI)-1))=m:=by
  rw[show(q:tyI)-1=((q-1:tyN):tyI) by omega,<-Int.natCast_mul,hm];exact(C0 _ J J).1
 have x1:=(C0 ((q:tyI)-1) J J).1;have x3:=(C0 ((q:tyI)+m) J J).1;have x5:=(C0 ((c:tyI)-1) J J).1;have hb2:=Ah W (Y #[(),(),(),(),(),(),()] 130);have hu2:=(AV W).alloc (Y #[(),(),(),(),(),(),()] 130);obtain⟨W2,hW2⟩:=gX (W.alloc (Y #[(),(),(),(),(),(),()] 130));rw[hW2]at hb2 hu2;have HW2:=I hW2;obtain⟨z,hz⟩:=gX W.heap.size;rw[hz]at hb2;have HZ:=I hz;have HZW:=I (show w.heap.size<=z from by rw[<-hz];exact HU.size);have HB2:=I (λw' (u:Up W2 w')=>(u.block z (gE hb2).1).trans hb2);have Cm:=I (HU.trans hu2);obtain⟨⟨c0,c1,c2,c3⟩,c4,c5,c6⟩:=HS W2 hu2;clear hN hm hm2 hj hj2 HT hb hl hq ha hc hac hb2 hu2 hW2 hz HS;generalize b+16*(j:tyI)=b' at*;generalize lo+(2+18*(j:tyI))=lo' at*;by_cases h3:a<c
 all_goals
  first|(have h4:(a:tyI)<c:=by omega)|(have h4:¬(a:tyI)<c:=by omega)
  first|(have HE:=I (HJ.1 h3))|(have HE:=I (HJ.2 h3))
  clear h3 HJ;go_enter Tryz.func288,Tryz.ntmps288;go_upto_region 1 with fail;rw[HW2,HZ];have he:=HE.out;go_wp2_with fail;refine(uT _).mono ?_;rintro e w3 ⟨rfl,hu3⟩;have hz3:=HB2 w3 hu3;have HZ3:=I hz3;have Hg:=I (Ox (Cm.trans hu3) HZW #[O 5,b',lo',n,wr,rd,O 1099511627776]);clear hu3;go_wp2_with(refine RH rfl 130 (.tmp 8) (.tmp 23) rfl z #[O 5,b',lo',n,wr,rd,O 1099511627776] rfl rfl 130 #[(),(),(),(),(),(),()] hz3 Ay rfl (by simp[Value.oneCell']) ?_)
  refine Gz (v:= .agg #[O 5,b',lo',n,wr,rd,O 1099511627776]) ?_ rfl ⟨rfl,Hg⟩;exact GV rfl _ _ z 130 _ _ _ rfl (Se w3 z _ _ _ _ HZ3) Tryz.underlying130 rfl Ay
theorem Ou(k but:tyI)(w:tyW):Calls Tryz.prog 287 #[k,but] w λe w'=>e=BA (.func (.func 303) #[] #[pT w,pT (w+1)])/\w'=(w.alloc (Y #[k] 3)).alloc (Y #[but] 3):=by
 have HMF:=I (show∀(fn:Fn) (first cap:Array Value) (w:tyW),(Instr.makeFunc fn first cap).run Tryz.prog w= .ok (.func fn first cap) w from λ_ _ _ _=>rfl);go_enter Tryz.func287,Tryz.ntmps287
 go_wp2
 go_ret;exact⟨rfl,rfl⟩
theorem Oc(l kb bb k:tyN)(but:tyI)(hk:k<=1000)(AC:Nat->World->Prop)(Jp:List PanicEntry->World->Prop)(hc:∀i W,AC i W->V W kb 0 k/\V W bb 0 but)
  (hs:∀i W,AC i W->¬(i:tyI)≠but->AC (i+1) W)
  (hY:∀i W,i<k->(i:tyI)≠but->AC i W->YieldAt Fence.wide 1 Tryz.prog l #[O i] W λe W'=>(e=BA true/\AC (i+1) W')\/∃ch,e= .panicked ch/\Jp ch W') (W:tyW) (h0:AC 0 W):
  CallsIn Fence.wide 2 Tryz.prog 303 #[.func (.yield l) #[] #[],pT kb,pT bb] W λe W'=>(∃v,e=BA v/\AC k W')\/∃ch,e= .panicked ch/\Jp ch W':=by
 have HC:=I hc;have HS:=I hs;have HY:=I hY;obtain⟨k1,k2⟩:=hc 0 W h0;have HK:=I hk;clear hc hs hY hk;refine callsIn_of_wp Tryz.func303 rfl trivial ?_ rfl;simp only[Tryz.ntmps303,fa,Qy,Rn,Nat.reduceAdd,Nat.reduceSub,jn,lW,kQ,ld,PL,ak]
 gi_wp2
 gi_loopw [6] (λx wr=> ∃i:Nat,x=O i/\Hid (i<=k)/\AC i wr) (λx _=>k-(intOf x).toNat)
 case atStart=>exact⟨0,rfl,I (DV _),h0⟩
 case round=>
  obtain⟨i,rfl,HI,hJ⟩:=hrel;obtain⟨k1,k2⟩:=HC i wr hJ;by_cases hlt:i<k
  .have hlt':(i:tyI)<k:=J;have hw:wrap64 ((i:tyI)+1)=((i+1:tyN):tyI):=by rw[IntWalk.wrap64_in _ (by have:=HK.out;omega)];rfl
   have HI2:=I (show i+1<=k from hlt);have HM:=I (show k-(intOf (O (wrap64 ((i:tyI)+1)))).toNat<k-(intOf (O (i:tyI))).toNat from by rw[hw];show k-((i+1:tyN):tyI).toNat<k-(i:tyI).toNat;omega);by_cases hb:(i:tyI)=but
   .have hJ2:=HS i wr hJ (λq=>q hb);have hbb:((i:tyI) !=but)=false:=by simpa using hb
    clear hb
    gi_wp2
    refine⟨λ_ h=>(by cases h),?_⟩
    gi_wp2
    go_roundw
    case rel=>exact⟨i+1,by rw[hw],HI2,hJ2⟩
    case measure=>exact HM
   .have hbb:((i:tyI) !=but)=true:=by simpa using hb
    obtain⟨fn,tmps,assign,body,hyy,hR⟩:=HY i wr hlt hb hJ
    gi_wp2
    refine hR.mono ?_;rintro e W3 (⟨rfl,hJ3⟩|⟨ch,rfl,hp⟩)
    .gi_wp2
     go_roundw
     case rel=>exact⟨i+1,by rw[hw],HI2,hJ3⟩
     case measure=>exact HM
    .exact⟨rfl,.inr ⟨ch,rfl,hp⟩⟩
  .have hn:¬(i:tyI)<k:=J;obtain rfl:i=k:=by have:=HI.out;omega
   gi_wp2
   go_end0
   exact .inl ⟨⟨_,rfl⟩,hJ⟩
end
end Go.Proofs.YtpodgcpkccpnfaaGreat
