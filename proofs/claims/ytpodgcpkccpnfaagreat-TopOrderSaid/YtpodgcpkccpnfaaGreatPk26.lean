import Derived.Test.YtpodgcpkccpnfaaGreatPk25
set_option linter.unusedVariables false
set_option linter.unusedSimpArgs false
set_option maxRecDepth 20000
set_option maxHeartbeats 40000000
namespace Go.Proofs.YtpodgcpkccpnfaaGreat
variable{l:List C6}{B j:Nat}{w:World}
section
open Go.RowKit
theorem UG(S5:List GU)(ob n cap:tyN)(q:tyN)(obj arg me:tyI)(i:tyN)(o:GU)(op:Op RD)(g B:tyN)(s0:TS)(W:tyW)(h:AX W g B s0)(hq:1<=q/\q<=17)(nO:(An q).2.2=0)
  (hcf:∀(args:Array Value) (W:tyW),(callFunc (An q).2.1 args).run Tryz.prog W= .ok (.enter (An q).2.1 args) W)
  (xD:obj=(i:tyI)) (hin:i<n) (hn:n<=8) (hcap:n<=cap/\cap<=9223372036854775807) (ho:S5[i]?=some o) (hkind:o.th.kind=((An q).1:tyI)) (Vq:Mm W ob S5) (hlt:ob<W.heap.size)
  (hf:∀W',Up W W'->AX W' g B s0->Calls Tryz.prog (An q).2.1 #[pT g,MG o,arg,me] W' (AP encR g B W' (op.BH s0))):
  Calls Tryz.prog 84 #[pT g,BG ob 0 n cap,.agg #[q,obj,arg],me] W (AP encR g B W (op.BH s0)):=by
 subst xD;obtain⟨R,hE⟩:=gX (op.BH s0);rw[hE];have HE:=I hE;clear hE;have hb1:=Ah W (Y #[q,i,arg] 65);have hb1:=(((AV (W.alloc (Y #[q,i,arg] 65))).alloc (Y #[(),()] 58)).block W.heap.size Az).trans hb1;have hb2:=Ah (W.alloc (Y #[q,i,arg] 65)) (Y #[(),()] 58);rw[Cy]at hb2;have hu:Up W ((W.alloc (Y #[q,i,arg] 65)).alloc (Y #[(),()] 58)):=((AV W).alloc _).alloc _;have hsz:((W.alloc (Y #[q,i,arg] 65)).alloc (Y #[(),()] 58)).heap.size=W.heap.size+2:=Az;have hi0:(0:tyI)<=(i:tyI):=J;have hi1:(i:tyI)<(n:tyI):=J;have hi2:((n:tyI)<=(i:tyI))=False:=by simp;omega
 have HR:=I ((Vq.up (hu.block ob hlt)).row i o ho);have HB1:=I hb1;have HB2:=I hb2;have HU:=I hu;have EK:=I hsz;have ip:=I hq;have nP:=I nO;clear hq nO;go_enter Tryz.func84,Tryz.ntmps84;go_upto_region 1 with fail;generalize(W.alloc (Y #[q,i,arg] 65)).alloc (Y #[(),()] 58)=W2 at*;have c0:=cI HB1 0;have c1:=cI HB1 1;have c2:=cI HB1 2;have hlc:W.heap.size<W2.heap.size:=J;clear hb1 hb2 hu hsz Vq hlt ho;go_upto_region 4 with(first|(refine bo rfl 132 (.tmp 26) rfl ob (i*23) ?_ (JE o) _ HR Tryz.underlying132 rfl Ay ?_; · (first|rfl|(simp;done)))|fail)
 rw[show(storeCells ⟨W2.heap.size,0,none⟩ (JE o)).run Tryz.prog _=_ from run_storeCells_new (P:=Tryz.prog) W2 132 GL (JE o).toArray Ay rfl (cQ o)];go_simp;go_upto_region 4 with fail;have bD:=Ah W2 (Y (JE o).toArray 132);have hu2:Up W2 (W2.alloc (Y (JE o).toArray 132)):=(AV W2).alloc _;generalize hzo:W2.heap.size=zo at bD|-;have HZO:=I (And.intro hlc hzo);have HB3:=I (And.intro ((hu2.block W.heap.size hlc).trans HB1) (And.intro ((hu2.block _ (gE HB2).1).trans HB2) bD));have Hg:=I (HU.trans hu2);generalize W2.alloc (Y (JE o).toArray 132)=W3 at*;clear HU HB1 HB2 HR EK bD hu2 hzo c0 c1 c2 hlc hi0 hi1 hi2
 go_cut[10,11,28,29,32,33,34] (λv10 v11 v28 v29 v32 v33 v34 wx=> ∃zc:Nat,v10=pT zc/\v11=true/\Hid (Up W3 wx/\BR wx zc #[O ((An q).1:tyI),.func (.func (An q).2.1) #[] #[]] 203))
 case first=>
  have c0:=cI HB3.1 0;have Gq:=I (λ(W':tyW) (u:Up W3 W')=>(u.cell (p:=aD W 0) (AJ c0)).trans c0);have hS:V W3.drew W 0 q:=c0;clear c0;refine Br (S:=λw'=>V w' W 0 q) Ay hS (λhS0=>?_);clear hS;refine tq 1 hS0 ?_;refine tq 2 hS0 ?_;refine Dn (rs:=[0,7]) Ay Az ?_;refine BU rfl (λK hK=>?_) (BU rfl (λK hK=>?_) Dp)
  .go_simp;refine(Lt _).mono ?_;rintro e w4 ⟨ML,m,F,rfl,hM,hF,-⟩;have Py:Up W3 w4:=(AV W3).drew.trans ML;obtain⟨v,nQ,hv⟩:=hF q ip.1 ip.2;rw[nP]at hv;have dg:v= .agg #[O ((An q).1:tyI),.func (.func (An q).2.1) #[] #[]]:=hv
   have iq:=I (λ(W':tyW) (e:hSM W' w4 m)=>show(Instr.lookup 205 (.map (some m)) q true).run Tryz.prog W'= .ok (.tuple #[.agg #[O ((An q).1:tyI),.func (.func (An q).2.1) #[] #[]],true]) W' from by
    have:=(hM.up e).O5 (q:=(q:tyI)) (Lz q (by have:=ip.out;omega));rw[nQ]at this
    rw[this,<-dg];rfl)
   have ru:=I (show m<w4.heap.size from hM.lt);have Pz:=I Py;have Gy:=Gq w4 Py;clear hF nQ dg hM ML Py hv;refine bk hK Gy λhS1=>?_
   refine Gk (S':=λw'=>V w' W 0 q/\(Instr.lookup 205 (.map (some m)) q true).run Tryz.prog w'= .ok (.tuple #[.agg #[O ((An q).1:tyI),.func (.func (An q).2.1) #[] #[]],true]) w') (λ_ h=>h.1) _ _ _ _ ?_;have Vr:=And.intro Gy (iq w4 rfl);refine tq 3 Vr ?_;refine tq 4 Vr ?_;refine tq 5 Vr ?_;refine tq 6 Vr ?_;refine tr 7 λK hK=>?_
   go_simp;have hS5:=And.intro (Gq (w4.alloc (Y #[(),.nilFunc] 203)) (Pz.alloc _)) (iq (w4.alloc (Y #[(),.nilFunc] 203)) (((AV w4).alloc _).block m ru));refine bk hK hS5 λhS6=>?_
   refine tr 8 λK hK=>?_
   go_simp;have rv:=And.intro (Gq (w4.alloc (Y #[O ((An q).1:tyI),.func (.func (An q).2.1) #[] #[]] 203)) (Pz.alloc _)) (iq (w4.alloc (Y #[O ((An q).1:tyI),.func (.func (An q).2.1) #[] #[]] 203)) (((AV w4).alloc _).block m ru));refine bk hK rv λZE=>?_
   refine tq 9 ZE ?_;refine CN Ay ?_ _
   try simp only[Act.put,DH,DI,DG,Ei,Ef,Ee]
   go_wp2
   go_meet;exact⟨w4.heap.size,rfl,rfl,I ⟨Pz.alloc _,Ah w4 _⟩⟩
  .go_simp;have Gy:=Gq (W3.alloc (Y #[(),.nilFunc] 203)).drew ((AV W3).alloc _).drew;have hzb:(W3.alloc (Y #[(),.nilFunc] 203)).drew.heap[W3.heap.size]?=some (.cells #[(),.nilFunc] 203 (0,0)):=Ah W3 _;refine bk hK Gy λhS1=>?_
   refine tr 0 λK hK=>?_
   go_simp;refine(Lt _).mono ?_;rintro e w4 ⟨ML,m,F,rfl,hM,hF,-⟩;have Py:Up W3 w4:=((AV W3).alloc _).drew.trans ML;obtain⟨v,nQ,hv⟩:=hF q ip.1 ip.2;rw[nP]at hv;have dg:v= .agg #[O ((An q).1:tyI),.func (.func (An q).2.1) #[] #[]]:=hv
   have iq:=I (λ(W':tyW) (e:hSM W' w4 m)=>show(Instr.lookup 205 (.map (some m)) q true).run Tryz.prog W'= .ok (.tuple #[.agg #[O ((An q).1:tyI),.func (.func (An q).2.1) #[] #[]],true]) W' from by
    have:=(hM.up e).O5 (q:=(q:tyI)) (Lz q (by have:=ip.out;omega));rw[nQ]at this
    rw[this,<-dg];rfl)
   have ru:=I (show m<w4.heap.size from hM.lt);have Pz:=I Py;have hzb:=(ML.block _ (gE hzb).1).trans hzb
   have zE:=I (show W3.heap.size≠m from λe=>by
    obtain⟨D,⟨es,ck,hh,_⟩,_⟩:=hM;rw[<-e,hzb]at hh
    cases hh)
   obtain⟨zb,hz⟩:=gX W3.heap.size;have HZE:=I hz;rw[hz]at hzb zE|-;clear hF nQ dg hM ML Py Gy hz hv;have rx:=I hzb;have k0:=cI hzb 0;have k1:=cI hzb 1;have f0:=fI hzb 0;have f1:=fI hzb 1;clear hzb;have Gy:=Gq w4 Pz;refine bk hK Gy λhS2=>?_
   refine Gk (S':=λw'=>V w' W 0 q/\(Instr.lookup 205 (.map (some m)) q true).run Tryz.prog w'= .ok (.tuple #[.agg #[O ((An q).1:tyI),.func (.func (An q).2.1) #[] #[]],true]) w') (λ_ h=>h.1) _ _ _ _ ?_;have Vr:=And.intro Gy (iq w4 rfl);refine tq 3 Vr ?_;refine tq 4 Vr ?_;refine tq 5 Vr ?_;refine tq 6 Vr ?_;refine tr 8 λK hK=>?_
   go_simp;have nR:∀k,k≠zb->hSM (CY w4 zb (O ((An q).1:tyI)) (.func (.func (An q).2.1) #[] #[])) w4 k:=λk hk=>B8 w4 zb k _ _ hk
   have hUp:Up W3 (CY w4 zb (O ((An q).1:tyI)) (.func (.func (An q).2.1) #[] #[])):=DL Pz (GG w4 zb W3.heap.size _ _ (Jq HZE));have rv:=And.intro (Gq _ hUp) (iq _ (nR m (Cz zE)));refine bk hK rv λZE=>?_
   refine tq 9 ZE ?_;refine CN Ay ?_ _
   try simp only[Act.put,DH,DI,DG,Ei,Ef,Ee]
   go_wp2
   go_meet;exact⟨zb,rfl,rfl,I ⟨hUp,Cp _ _ rx⟩⟩
 case rest=>
  obtain⟨zc,rfl,rfl,HC⟩:=hcut;have Mb:=I (Hg.trans HC.1);have hb1:=(HC.1.block _ (gE HB3.1).1).trans HB3.1;have hb2:=(HC.1.block _ (gE HB3.2.1).1).trans HB3.2.1;have ZC:=I ((HC.1.block _ (gE HB3.2.2).1).trans HB3.2.2);have HB2:=I hb2;have c2:=Ar _ _ 2 _ _ _ hb1;have k0:=Ar _ _ 0 _ _ _ HC.2;have k1:=Ar _ _ 1 _ _ _ HC.2;have o0:=Ar _ _ 0 _ _ _ ZC;simp only[JE,OM,cP,qT,ak,PL,Iv,Is,I6]at c2 k0 k1 o0;rw[hkind]at o0;have hT:=h.up Mb;have HT:=I hT;have HP:=I (hf wc Mb hT);have hgs:=h.1.gs;have MK:=I (show g<W.heap.size+1 from J);generalize(An q).2.1=fq at*;generalize(An q).1=kq at*;unfold MG at HP;rw[jq]at HP;clear hb1 hb2 hT h hf hkind hgs;go_wp2_with(refine Hl rfl 132 (.tmp 9) rfl zo rfl 132 _ (0,0) _ ZC Tryz.underlying132 rfl Ay ?_)
  refine HP.mono ?_;intro e w5 hP;obtain⟨ro,s'⟩:=R;rw[HE]at hP;cases ro with
  |none=>
   obtain⟨rfl,hT1,GQ⟩:=AP.Fd rfl hP;have HF:=I (And.intro hT1 ((TK.Bp Mb).trans GQ));clear hP hT1 GQ HP c2 k0 k1 o0
   go_wp2
   exact⟨rfl,AP.none rfl ⟨rfl,HF.1,HF.2⟩⟩
  |some r=>
   obtain⟨rfl,hT1,GQ⟩:=AP.Fa rfl hP;have hb3:=GQ.kept HB2 (by have:=MK.out;omega) AQ;have nS:=I hb3;have HF:=I (And.intro hT1 ((TK.Bp Mb).trans GQ));have r0:=cI hb3 0;have r1:=cI hb3 1;have f0:=fI hb3 0;have f1:=fI hb3 1;obtain⟨x,y⟩:=r;unfold encR;clear hb3 hT1 GQ hP c2 k0 k1 o0 HP;go_wp2_with fail;refine Gz (v:=encR (x,y)) ?_ rfl (AP.some rfl ⟨rfl,?_,?_⟩)
   .exact GV rfl _ _ (W.heap.size+1) 58 _ _ _ rfl (Cp x y nS) Tryz.underlying58 rfl Ay
   .exact HF.1.far nS (by have:=MK.out;omega) AQ (Jq (FM _ _ _ _).symm) λk hk _=>B8 w5 _ k _ _ hk
   .exact TK.Rb HF.2 _ _ J
def Kw (w:tyW)(B:tyN)(v:tyV)(l:List St):Prop:=w.ownsRow B 123 2 v l.length (J3 l)
theorem vV:(Tryz.prog.info? 123).map (λi=>(i.zero,i.size,i.bytes))=some (some (.agg #[.int .u64 0,()]),2,16):=Ay
def JG (w:tyW)(o o':Option Nat):Prop:=o'=o\/o'=none\/∃g,o'=some g/\w.heap.size<=g
theorem JG.trans{w w1:tyW}{o o1 o2:Option Nat}(h:JG w o o1)(k:JG w1 o1 o2)(hs:w.heap.size<=w1.heap.size):JG w o o2:=by
 rcases k with rfl|rfl|⟨g,rfl,hg⟩
 .exact h
 .exact .inr (.inl rfl)
 .exact .inr (.inr ⟨g,rfl,DB hs hg⟩)
theorem Ih{w w1 w2:tyW}{o o1:Option Nat}(h:w.grownBy w1 o)(k:w1.grownBy w2 o1)(ho:JG w o o1):w.grownBy w2 o:=
 ⟨k.os.trans h.os,k.tape.trans h.tape,k.output.trans h.output,DB h.size k.size,λb hb hne=>by
  refine(k.block b (B5 hb h.size) ?_).trans (h.block b hb hne);rcases ho with rfl|rfl|⟨g,rfl,hg⟩
  .exact hne
  .simp
  .intro e;injection e with e
   omega⟩
theorem X2{w w':tyW}(o:Option Nat)(h:Up w w'):w.grownBy w' o:=⟨h.os,h.tape,h.output,h.size,λk hk _=>h.block k hk⟩
theorem lJ{w:tyW}{B:tyN}{v:tyV}{T:List St}(h:Kw w B v T):∃A cc,v=AR A T.length cc/\∀j,j<T.length->∃g,A=some ⟨g,0,none⟩/\V w g (j*2) (.int .u64 ((T.getD j st0).1:tyI))/\V w g (j*2+1) (O (T.getD j st0).2):=by
 rcases h.2 with⟨a1,a2⟩|⟨g,cap,cur,a1,_⟩
 .exact⟨none,0,by rw[a1,a2],λj hj=>J⟩
 .refine⟨_,cap,a1,λj hj=>⟨g,rfl,?_⟩⟩;have ho':=h;unfold Kw at ho';rw[a1]at ho'
  have c:∀q,q<2->w.cell? (aD g (j*2+q))=(Xm (T.getD j st0))[q]?:=λq hq=>
   (ho'.cellAt (j*2+q) J).trans (iP T j hj q hq)
  exact⟨c 0 AQ,c 1 AQ⟩
theorem dM{w:tyW}{B:tyN}{v:tyV}{L:List Nat}(h:Xk w B v L):∃A cc,v=AR A L.length cc/\∀j,j<L.length->∃g,A=some ⟨g,0,none⟩/\V w g j (O ((L.getD j 0:tyN):tyI)):=by
 rcases h.2 with⟨a1,a2⟩|⟨g,cap,cur,a1,_⟩
 .exact⟨none,0,by rw[a1,a2],λj hj=>J⟩
 .refine⟨_,cap,a1,λj hj=>⟨g,rfl,?_⟩⟩;have ho':=h;unfold Xk at ho';rw[a1]at ho';refine(ho'.cellAt j J).trans ?_;unfold Mp;rw[BY,gG hj,gD,gG hj];rfl
theorem Ux{P:Program}{ops:Array Oper}{rest:List Oper}{o:Oper}{a:Act}{Q:Exit->Act->World->Prop}{w:tyW}{e:TypeId}{news:List Value}(hgd:o.guard=none)(s x:Operand)(t:TypeId)
  (ho:o.op= .call {callee:= .builtin .append,args:= #[s,x],argTypes:= #[t,t]})
  (B:tyN) (i:TypeInfo) (z:tyV) (size bytes:tyN) (ht:P.underlying t=some (.slice e)) (hi:P.info? e=some i) (hz:i.zero=some z)
  (hsize:i.size=size) (hby:i.bytes=bytes) (hzs:z.cells.size=size) (hsz:0<size)
  (v:tyV) (n:tyN) (xs:List Value) (hs:a.eval s=v) (hown:w.ownsRow B e size v n xs)
  (hx:a.eval x=BG w 0 1 1) (hl:news.length=size) (h1:∀u∈news,u.oneCell'=true)
  (hb1:0<bytes) (hbytes:(n+1)*bytes<=140737488355328) (hB:B<=w.heap.size)
  (h:∀v' w',w'.ownsRow B e size v' (n+1) (xs++news)->w.grownBy w' v.ownBlock->JG w v.ownBlock v'.ownBlock->wpList P ops Q rest (a.put o.dst v') w'):
  wpList P ops Q (o::rest) a (w.alloc (Y news.toArray e)):=by
 have h63:n+1<=maxLen:=by
  have:n+1<=(n+1)*bytes:=TE _ hb1;unfold maxLen;omega
 refine wpList_append_lies (w.alloc (Y news.toArray e)) hgd s x t ho B e i z size bytes ht hi hz hsize hby hzs hsz v n xs hs (hown.alloc _) ⟨w.heap.size,0,none⟩ 1 1 news hx J (λj u hu=>CQ w news e j u hu) h1 AQ h63 hbytes (by simp;omega) _ rfl ?_;intro g cap w' hown' hg hor hlt;have hg':w.grownBy w' v.ownBlock:=⟨hg.os,hg.tape,hg.output,DB Az hg.size,λk hk hne=>(hg.block k (by simp;omega) hne).trans (JP w _ k hk)⟩;refine h _ w' hown' hg' ?_;rcases hor with h1|h1
 .exact .inl h1.symm
 .refine .inr (.inr ⟨g,rfl,?_⟩);rw[h1];simp
def KS (T:List St):Prop:=T.Nodup/\∀s,s∈T->s.1<262144/\0<=s.2/\s.2<=3
def Wz (l:List C6):Prop:=l.length<=18/\∀i,i<l.length->(l.getD i Ax).wr=true->0<=(l.getD i Ax).val/\(l.getD i Ax).val<=3
theorem Wx:∀(M:tyN) (L:List Nat),L.Nodup->(∀x,x∈L->x<M)->L.length<=M
 |0,L,_,h=>by
  cases L with
  |nil=>exact A9 _
  |cons a L=>exact absurd (h a (.head _)) (Uu a)
 |M+1,L,hd,h=>by
  have h1:=Wx M (L.erase M) (hd.erase M) λx hx=>by
   have h2:=(hd.mem_erase_iff).1 hx;have:=h x h2.2;have:=h2.1;omega
  have:=List.length_erase (a:=M) (l:=L);split at this<;>omega
theorem KS.few{T:List St}(h:KS T):T.length<=1048576:=by
 have:=Wx 1048576 (T.map λs=>s.1*4+s.2.toNat) ?_ λx hx=>?_
 .rwa[Ca]at this
 .refine List.pairwise_map.2 (List.Pairwise.imp_of_mem (λ{a b} ha hb hne e=>hne ?_) h.1);have h1:=h.2 a ha;have h2:=h.2 b hb;exact ey J J
 .obtain⟨s,hs,rfl⟩:=Cd.1 hx;have:=h.2 s hs;omega
theorem KS.push{T:List St}(h:KS T){d:tyN}{v:tyI}(hd:d<262144)(hv:0<=v/\v<=3)(hn:(d,v)∉T):KS (T++[(d,v)]):=by
 refine⟨lH.2 ⟨h.1,Az,λa ha b hb e=>?_⟩,λs hs=>?_⟩
 .rw[Bq]at hb;subst hb;subst e;exact hn ha
 .rcases Cs.1 hs with hs|hs
  .exact h.2 s hs
  .rw[Bq]at hs;subst hs;exact⟨hd,hv⟩
theorem WN{d p:tyN}(hd:d<262144)(hp:p<18):Dk d p<262144:=by
 unfold Dk;cases h:hasB d p with
 |true=>exact hd
 |false=>
  show d+2^p<2^18;have h1:hasB d p=false:=h
  have h2:d/2^(p+1)<2^(17-p):=by
   rw[tt (Tb _),<-Ww,show 17-p+(p+1)=18 by omega];exact hd
  rw[<-RJ h1,tt (Tb _),<-Ww,show 17-p+(p+1)=18 by omega]at h2;exact h2
theorem Wz.after{l:List C6}(h:Wz l){p:tyN}(hp:p<l.length){v:tyI}(hv:0<=v/\v<=3):0<=Hn (l.getD p Ax) v/\Hn (l.getD p Ax) v<=3:=by
 unfold Hn;cases e:(l.getD p Ax).wr with
 |true=>exact h.2 p hp e
 |false=>exact hv
structure Kg (l:List C6)(d:tyN)(v:tyI)(T:List St)(tv:tyV)(w:tyW)(B:tyN)(vn:tyV)(i:tyN)(x:tyV)(T':List St)(wr:tyW):Prop where
 own:Kw wr B x T'
 blk:JG w tv.ownBlock x.ownBlock
 gr:w.grownBy wr tv.ownBlock
 nx:Xk wr w.heap.size vn (Cx l d)
 ap:vn.ownBlock=none\/vn.ownBlock≠x.ownBlock
 ext:∃E,T'=T++(d,v)::E/\∀s∈E,Closed l T' s
 ch:∀q,q<i->Hi (l.getD ((Cx l d).getD q 0) Ax) v=true->child l d v ((Cx l d).getD q 0)∈T'
 len:KS T'
section
variable {l:List C6}{d:tyN}{v:tyI}{T T':List St}{tv x vn:tyV}{w wr:tyW}{B i:tyN}
theorem Kg.up(h:Kg l d v T tv w B vn i x T' wr){wb:tyW}(u:Up wr wb):Kg l d v T tv w B vn i x T' wb:=
 ⟨Nh h.own u,h.blk,Ih h.gr (X2 x.ownBlock u) h.blk,Nh h.nx u,h.ap,h.ext,h.ch,h.len⟩
theorem Kg.skip(h:Kg l d v T tv w B vn i x T' wr)(hi:Hi (l.getD ((Cx l d).getD i 0) Ax) v=false):Kg l d v T tv w B vn (i+1) x T' wr:=
 ⟨h.own,h.blk,h.gr,h.nx,h.ap,h.ext,(λq hq ht=>by
  by_cases hqi:q<i
  .exact h.ch q hqi ht
  .obtain rfl:q=i:=J
   rw[hi]at ht;cases ht),h.len⟩
theorem Kg.told(h:Kg l d v T tv w B vn i x T' wr){x2:tyV}{T2:List St}{w2:tyW}(ho:Kw w2 B x2 T2)(hg:wr.grownBy w2 x.ownBlock)(hm:JG wr x.ownBlock x2.ownBlock)
  (hh:LH l (child l d v ((Cx l d).getD i 0)).1 (child l d v ((Cx l d).getD i 0)).2 T' false T2) (hl:KS T2):Kg l d v T tv w B vn (i+1) x2 T2 w2:=by
 obtain⟨hmem,E2,rfl,hc2⟩:=hh.2 rfl;obtain⟨E,hE,hc⟩:=h.ext;refine⟨ho,h.blk.trans hm h.gr.size,Ih h.gr hg h.blk,h.nx.kept hg h.ap,?_,⟨E++E2,by rw[hE];simp,λs hs=>?_⟩,λq hq ht=>?_,hl⟩
 .rcases hm with hm|hm|⟨g,hm,hgg⟩
  .rw[hm];exact h.ap
  .rw[hm];cases hv:vn.ownBlock with
   |none=>exact .inl rfl
   |some b=>exact .inr Az
  .rw[hm];cases hv:vn.ownBlock with
   |none=>exact .inl rfl
   |some b=>
    refine .inr (λe=>?_);injection e with e
    have:=(h.nx.lt b hv).2;omega
 .rcases Cs.1 hs with hs|hs
  .exact(hc s hs).more E2
  .exact hc2 s hs
 .by_cases hqi:q<i
  .exact P3 _ (h.ch q hqi ht)
  .obtain rfl:q=i:=J;exact hmem
theorem Kg.out(h:Kg l d v T tv w B vn (Cx l d).length x T' wr)(hl:Ry l d=true):LH l d v T false T':=by
 refine⟨(λe=>by cases e),λ_=>?_⟩;obtain⟨E,hE,hc⟩:=h.ext;refine⟨by rw[hE];simp,(d,v)::E,hE,λs hs=>?_⟩;rcases BJ.1 hs with rfl|hs
 .refine⟨hl,λi hi ht=>?_⟩;obtain⟨q,hq,rfl⟩:=Dj hi;have e:(Cx l d).getD q 0=(Cx l d)[q]:=by rw[gD,gG hq];rfl
  have:=h.ch q hq;rw[e]at this;exact this ht
 .exact hc s hs
theorem Kg.start{x w1 w2:_}(hT:KS (T++[(d,v)]))(ho:Kw w1 B x (T++[(d,v)]))(hg:w.grownBy w1 tv.ownBlock)(hm:JG w tv.ownBlock x.ownBlock)(u:Up w1 w2)(hn:Xk w2 w1.heap.size vn (Cx l d)):Kg l d v T tv w B vn 0 x (T++[(d,v)]) w2:=by
 refine⟨Nh ho u,hm,Ih hg (X2 x.ownBlock u) hm,⟨hn.1,hn.2.imp id λ⟨g,cap,cur,a1,a2,a3⟩=>⟨g,cap,cur,a1,DB hg.size a2,a3⟩⟩,?_,⟨[],rfl,λs hs=>by cases hs⟩,λq hq=>absurd hq (Uu q),hT⟩;cases hv:vn.ownBlock with
 |none=>exact .inl rfl
 |some b=>
  refine .inr (λe=>?_);have h1:=(hn.lt b hv).1;have h2:=(ho.lt b e.symm).2;omega
end
theorem qS:Jl l j=(decide (Fy l j<=(l.getD j Ax).Ko)&&((l.getD j Ax).to== -1||decide ((l.getD j Ax).Ko<=(l.getD j Ax).to))&&(decide (0<=(l.getD j Ax).LD)&&decide ((l.getD j Ax).LD<8))&&Mz (lastOf l (l.getD j Ax).LD j) (l.getD j Ax)):=by
 unfold Jl
 have e1:(!decide ((l.getD j Ax).Ko<Fy l j))=decide (Fy l j<=(l.getD j Ax).Ko):=by
  by_cases h:(l.getD j Ax).Ko<Fy l j
  .rw[Fi h,DF J];rfl
  .rw[DF h,Fi J];rfl
 have e2:(!(((l.getD j Ax).to != -1)&&decide ((l.getD j Ax).to<(l.getD j Ax).Ko)))=((l.getD j Ax).to== -1||decide ((l.getD j Ax).Ko<=(l.getD j Ax).to)):=by
  by_cases h:(l.getD j Ax).to= -1
  .rw[h];rfl
  .rw[Ol.2 h,Dy.2 h];by_cases h2:(l.getD j Ax).to<(l.getD j Ax).Ko
   .rw[Fi h2,DF J];rfl
   .rw[DF h2,Fi J];rfl
 rw[e1,e2]
theorem iC{t:tyI}{k:tyN}(hk:k<j)(ht:(l.getD k Ax).LD=t)(hn:∀q,k<q->q<j->(l.getD q Ax).LD≠t):lastOf l t j=some (l.getD k Ax):=by
 induction j with
 |zero=>omega
 |succ j ih=>
  unfold lastOf;by_cases he:k=j
  .subst he;rw[AK ht]
  .rw[AI (hn j J J)];exact ih J (λq h1 h2=>hn q h1 J)
theorem iM{t:tyI}(hn:∀q,q<j->(l.getD q Ax).LD≠t):lastOf l t j=none:=by
 induction j with
 |zero=>rfl
 |succ j ih=>
  unfold lastOf;rw[AI (hn j J)];exact ih (λq h=>hn q J)
def good (l:List C6)(j:tyN):Bool:=decide (Fy l j<=(l.getD j Ax).Ko)&&((l.getD j Ax).to== -1||decide ((l.getD j Ax).Ko<=(l.getD j Ax).to))&&(decide (0<=(l.getD j Ax).LD)&&decide ((l.getD j Ax).LD<8))
theorem iR:Jl l j=(good l j&&Mz (lastOf l (l.getD j Ax).LD j) (l.getD j Ax)):=qS
theorem T0(l:List C6)(A:tyA)(c:tyN)(w:tyW)(hL:l.length<=9223372036854775807)(hr:Gh w A l):
  Calls Tryz.prog 16 #[AR A l.length c] w λe w'=>e=BA (.bool (LI l))/\Up w w':=by
 have HR:=I hr;have jR:=I (λi h1 h2=>lL (l:=l) (i:=i) h1 h2);have HYE:=I (λh=>Tp (l:=l) h);have ot:(l.length:tyI)<=9223372036854775807:=J;have HOG:=I (λj=>iR (l:=l) (j:=j));have HFN:=I (λj h=>RQ (l:=l) j h);clear hr hL;generalize LI l=r at*;go_enter Tryz.func16,Tryz.ntmps16;go_wp2_with fail
 go_loopw[3] (λx wr=> ∃j:Nat,j<=l.length/\x=O j/\Hid (∀i,i<j->Jl l i=true)/\Hid (Up w wr)) (λx _=>l.length-(intOf x).toNat)
 case atStart=>exact⟨0,J,rfl,I (λi hi=>absurd hi (Uu i)),I (AV _)⟩
 case round=>
  obtain⟨j,hj,rfl,HK,HV⟩:=hrel;by_cases hlt:j<l.length
  .have hji:(j:tyI)<l.length:=J;have hj0:(0:tyI)<=j:=J;obtain⟨bk,off,rfl,x0,x1,x2,x3,x4⟩:=HR.up HV j hlt;have zi:=I (HFN j HK);have KH:Hid (good l j=(decide (Fy l j<=(l.getD j Ax).Ko)&&((l.getD j Ax).to== -1||decide ((l.getD j Ax).Ko<=(l.getD j Ax).to))&&(decide (0<=(l.getD j Ax).LD)&&decide ((l.getD j Ax).LD<8)))):=I rfl
   have HPR:Hid (0<j->∃b f,(some ⟨bk,off,none⟩:tyA)=some ⟨b,f,none⟩/\V wr b (f+(j-1)*5) (O (Fy l j))):=I (λh=>by
    obtain⟨b,f,e,y0,_⟩:=HR.up HV (j-1) J
    exact⟨b,f,e,by unfold Fy;rw[AI J];exact y0⟩)
   have HF0:Hid (j=0->Fy l j=0):=I (λh=>by unfold Fy;rw[AK h]);generalize hgd:good l j=gd at*;have HGJ:=I hgd;clear hgd;generalize Fy l j=fj at*;generalize hoj:l.getD j Ax=oj at*;have HOJ:=I hoj;clear hoj;obtain⟨F,T,Wr,AF,Th⟩:=oj;dsimp only at x0 x1 x2 x3 x4 KH;have nI:=I (Ah wr (Y #[F,T,Wr,AF,Th] 81));have IK:=I (HV.alloc (Y #[F,T,Wr,AF,Th] 81));go_upto_region 5 with fail
   go_cut[55] (λs wx=>s= .bool (!gd)/\Hid (Up (wr.alloc (Y #[F,T,Wr,AF,Th] 81)) wx))
   case first=>
    by_cases h1:F<0
    .have HN:Hid (gd=false):=I (by rw[KH,DF (by have:=zi.out;omega)];rfl);clear KH;go_quiet(fail)
     go_wp2
     go_meet;exact⟨by rw[HN];rfl,I (below_drewN (AV _) _)⟩
    .have hd1:decide (F<0)=false:=DF h1;cases hq:(T != -1)
     .by_cases h3:Th<0
      .have HN:Hid (gd=false):=I (by rw[KH];simp;omega);clear KH;go_quiet(fail)
       go_wp2
       go_meet;exact⟨by rw[HN];rfl,I (below_drewN (AV _) _)⟩
      .have hd3:decide (Th<0)=false:=DF h3;by_cases h4:7<Th
       .clear h3;have HN:Hid (gd=false):=I (by rw[KH];simp;omega);clear KH;go_quiet(fail)
        go_wp2
        go_meet;exact⟨by rw[HN];rfl,I (below_drewN (AV _) _)⟩
       .have hd4:decide (7<Th)=false:=DF h4;by_cases h5:0<j
        .obtain⟨b5,f5,e5,y5⟩:=HPR h5;cases e5
         have hl5:=AJ y5;have hj5:(0:tyI)<j:=J;have hjm:(j:tyI)-1=((j-1:tyN):tyI):=J;have V7:IntKind.i64.wrap ((j:tyI)-1)=((j-1:tyN):tyI):=by rw[IntWalk.i64_in _ J,hjm]
         have AHa:((j-1:tyN):tyI)<l.length:=J;have AHb:(0:tyI)<=((j-1:tyN):tyI):=J;generalize j-1=jj at*;clear hjm;by_cases h6:F<fj
         .have HN:Hid (gd=false):=I (by rw[KH];simp;omega);clear KH;go_quiet(fail)
          go_wp2
          go_meet;exact⟨by rw[HN];rfl,I (below_drewN (AV _) _)⟩
         .have hd6:decide (F<fj)=false:=DF h6;have HN:Hid (gd=true):=I (by rw[KH];simp at hq|-;omega);clear KH;go_quiet(fail)
          go_wp2
          go_meet;exact⟨by rw[HN];rfl,I (below_drewN (AV _) _)⟩
        .have hd5:decide ((0:tyI)<(j:tyI))=false:=DF J;have AHc:decide (0<j)=false:=DF h5;have HN:Hid (gd=true):=I (by rw[KH,HF0 J];simp at hq|-;omega);clear KH h5;go_quiet(fail)
         go_wp2
         go_meet;exact⟨by rw[HN];rfl,I (below_drewN (AV _) _)⟩
     .by_cases h2:T<F
      .have HN:Hid (gd=false):=I (by rw[KH];rw[Ol]at hq;simp;omega);clear KH;go_quiet(fail)
       go_wp2
       go_meet;exact⟨by rw[HN];rfl,I (below_drewN (AV _) _)⟩
      .have hd2:decide (T<F)=false:=DF h2;by_cases h3:Th<0
       .have HN:Hid (gd=false):=I (by rw[KH];simp;omega);clear KH;go_quiet(fail)
        go_wp2
        go_meet;exact⟨by rw[HN];rfl,I (below_drewN (AV _) _)⟩
       .have hd3:decide (Th<0)=false:=DF h3;by_cases h4:7<Th
        .clear h3;have HN:Hid (gd=false):=I (by rw[KH];simp;omega);clear KH;go_quiet(fail)
         go_wp2
         go_meet;exact⟨by rw[HN];rfl,I (below_drewN (AV _) _)⟩
        .have hd4:decide (7<Th)=false:=DF h4;by_cases h5:0<j
         .obtain⟨b5,f5,e5,y5⟩:=HPR h5;cases e5
          have hl5:=AJ y5;have hj5:(0:tyI)<j:=J;have hjm:(j:tyI)-1=((j-1:tyN):tyI):=J;have V7:IntKind.i64.wrap ((j:tyI)-1)=((j-1:tyN):tyI):=by rw[IntWalk.i64_in _ J,hjm]
          have AHa:((j-1:tyN):tyI)<l.length:=J;have AHb:(0:tyI)<=((j-1:tyN):tyI):=J;generalize j-1=jj at*;clear hjm;by_cases h6:F<fj
          .have HN:Hid (gd=false):=I (by rw[KH];simp;omega);clear KH;go_quiet(fail)
           go_wp2
           go_meet;exact⟨by rw[HN];rfl,I (below_drewN (AV _) _)⟩
          .have hd6:decide (F<fj)=false:=DF h6;have HN:Hid (gd=true):=I (by rw[KH];simp at hq|-;omega);clear KH;go_quiet(fail)
           go_wp2
           go_meet;exact⟨by rw[HN];rfl,I (below_drewN (AV _) _)⟩
         .have hd5:decide ((0:tyI)<(j:tyI))=false:=DF J;have AHc:decide (0<j)=false:=DF h5;have HN:Hid (gd=true):=I (by rw[KH,HF0 J];simp at hq|-;omega);clear KH h5;go_quiet(fail)
          go_wp2
          go_meet;exact⟨by rw[HN];rfl,I (below_drewN (AV _) _)⟩
   case rest=>
    obtain⟨rfl,jZ⟩:=hcut;have ZF:=I (j8 nI jZ);have HVW:=I (IK.trans jZ);have HJB:Hid (j<l.length):=I hlt;have V6:Hid (Jl l j=(gd&&Mz (lastOf l Th j) ⟨F,T,Wr,AF,Th⟩)):=I (by rw[HOG j,HGJ,HOJ]);have oH:Hid (Jl l j=false->r=false):=I (λh=>jR j hlt h)
    have HNK:Hid (Jl l j=true->∀i,i<j+1->Jl l i=true):=I (λh i hi=>by
     by_cases h2:i<j
     .exact HK i h2
     .obtain rfl:i=j:=J
      exact h)
    have hjc:(j:tyI)<=9223372036854775807:=J;clear x0 x1 x2 x3 x4 nI IK HPR HF0 KH zi HGJ HOG HFN jZ jR;cases gd
    .have HN:Hid (r=false):=I (oH (by rw[V6];rfl));clear V6 oH HNK
     go_wp2
     go_ret;exact⟨by rw[HN];rfl,HVW⟩
    .have so:Hid (Jl l j=Mz (lastOf l Th j) ⟨F,T,Wr,AF,Th⟩):=I (by rw[V6];rfl);have hw1:IntKind.i64.wrap ((j:tyI)-1)=(j:tyI)-1:=IntWalk.i64_in _ J;have hw1b:wrap64 ((j:tyI)-1)=(j:tyI)-1:=IntWalk.wrap64_in _ J;clear V6;generalize UR:wr.heap.size=ob at*;clear UR;go_wp2_with fail
     go_loopw[5] (λx wq=> ∃m:Nat,m<=j/\x=O ((m:tyI)-1)/\Hid (∀q,m<=q->q<j->(l.getD q Ax).LD≠Th)/\Hid (Up wc wq)) (λx _=>(intOf x+1).toNat)
     case atStart=>exact⟨j,J,by rfl,I (λq h1 h2=>absurd h1 J),I (AV _)⟩
     case round=>
      obtain⟨m,hm,rfl,HM,HQ⟩:=hrel;have HBQ:=I (j8 ZF HQ);have P1:=I (HVW.trans HQ);obtain⟨k0,k1,k2,k3,k4⟩:=gp HBQ;cases m with
      |zero=>
       have bQ:Hid (Jl l j=true):=I (by rw[so,iM (λq hq=>HM.out q (DV _) hq)];rfl);have HYJ:=I (HNK bQ);rw[show(((0:tyN):tyI)-1)= -1 from rfl];clear so oH HNK bQ;have hd0:decide ((0:tyI)<= -1)=false:=rfl;go_wp2_with fail;go_quiet(fail);go_wp2_with fail;go_quiet(fail)
       go_wp2
       go_roundw
       case rel=>exact⟨j+1,J,by go_num,HYJ,I (below_drewN P1 _)⟩
       case measure=>simp[intOf];omega
      |succ m=>
       have e1:(((m+1:tyN):tyI)-1)=(m:tyI):=J;rw[e1];clear e1;have G8:m<l.length:=by have:=HJB.out;omega
       have hmi:(m:tyI)<l.length:=J;have hm0:(0:tyI)<=m:=J;have hdm:decide ((0:tyI)<=m)=true:=Fi hm0;obtain⟨bm,fm,eA,y0,y1,y2,y3,y4⟩:=HR.up P1 m G8;cases eA
       by_cases ht:(l.getD m Ax).LD=Th
       .have yr:Hid (lastOf l Th j=some (l.getD m Ax)):=I (iC J ht (λq h1 h2=>HM q J h2));have ADN:Hid (Jl l j=Bt (l.getD m Ax) ⟨F,T,Wr,AF,Th⟩):=I (by rw[so,yr];rfl);have Km:=I (λW=>KE (l.getD m Ax) ⟨F,T,Wr,AF,Th⟩ W);clear so yr;generalize Bt (l.getD m Ax) ⟨F,T,Wr,AF,Th⟩=ah at*;generalize l.getD m Ax=p at*;obtain⟨PF,PT,PW,PV,PH⟩:=p;unfold gM at Km;dsimp only at Km y0 y1 y2 y3 y4 ht;subst ht;have hnn:(PH !=PH)=false:=Az;have sV:=I (λW (u:Up wr W)=>(Km W).mono λe w' (h:_/\_)=>show _/\Up wr w' from⟨h.1,u.trans h.2⟩);have KP:Hid (∀w',Up wr w'->Up wr w'/\V w' bk (off+m*5) PF/\V w' bk (off+m*5+1) PT/\V w' bk (off+m*5+2) PW/\V w' bk (off+m*5+3) PV/\V w' bk (off+m*5+4) PH/\V w' ob 0 F/\V w' ob 1 T/\V w' ob 2 Wr/\V w' ob 3 AF/\V w' ob 4 PH):=I (λw' u=>⟨u,(u.cell (AJ y0)).trans y0,(u.cell (AJ y1)).trans y1,(u.cell (AJ y2)).trans y2,(u.cell (AJ y3)).trans y3,(u.cell (AJ y4)).trans y4,(u.cell (AJ k0)).trans k0,(u.cell (AJ k1)).trans k1,(u.cell (AJ k2)).trans k2,(u.cell (AJ k3)).trans k3,(u.cell (AJ k4)).trans k4⟩);go_wp2_with fail;go_quiet(fail);clear y0 y1 y2 y3 y4 k0 k1 k2 k3 k4;go_wp2_with fail
        go_region_held3 (λw'=>Up wr w'/\V w' bk (off+m*5) PF/\V w' bk (off+m*5+1) PT/\V w' bk (off+m*5+2) PW/\V w' bk (off+m*5+3) PV/\V w' bk (off+m*5+4) PH/\V w' ob 0 F/\V w' ob 1 T/\V w' ob 2 Wr/\V w' ob 3 AF/\V w' ob 4 PH)
         (first|exact KP.out _ (by assumption)|exact KP.out _ (AV _).drew|exact KP.out _ (below_drewN (AV _) _)|exact KP.out _ (Up.drew (below_drewN (AV _) _)))
         (first|(go_at_call 38;refine(sV _ (Wl (by assumption))).mono ?_;rintro e w' ⟨rfl,hb⟩))
        all_goals
         cases ah
         .have HN:Hid (r=false):=I (oH (by rw[ADN]))
          go_wp2
          go_ret;exact⟨by rw[HN];rfl,P1.trans (by first|assumption|exact Wl (by assumption))⟩
         .have HYJ:=I (HNK (by rw[ADN]))
          go_wp2
          go_roundw
          case rel=>exact⟨j+1,J,by go_num,HYJ,I (P1.trans (by first|assumption|exact Wl (by assumption)))⟩
          case measure=>simp[intOf];omega
       .have ru:Hid (∀q,m<=q->q<j->(l.getD q Ax).LD≠Th):=I (λq h1 h2=>by
         by_cases h3:q=m
         .subst h3;exact ht
         .exact HM q J h2)
        generalize l.getD m Ax=p at*;obtain⟨PF,PT,PW,PV,PH⟩:=p;dsimp only at y0 y1 y2 y3 y4 ht;have hnn:(PH !=Th)=true:=by rw[Ol];exact ht
        have hwm:IntKind.i64.wrap ((m:tyI)-1)=(m:tyI)-1:=IntWalk.i64_in _ J;have hwmb:wrap64 ((m:tyI)-1)=(m:tyI)-1:=IntWalk.wrap64_in _ J;clear ht;go_wp2_with fail;go_quiet(fail);clear y0 y1 y2 y3 y4 k0 k1 k2 k3 k4
        go_wp2
        go_roundw
        case rel=>exact⟨m,J,by go_num,ru,I (below_drewN HQ _)⟩
        case measure=>simp[intOf]
  .obtain rfl:j=l.length:=J;clear hlt;have HY:=I (HYE HK)
   go_wp2
   go_ret;exact⟨by rw[HY];rfl,HV⟩
theorem fG(l:List C6)(A:tyA)(c:tyN)(w:tyW)(hl:l.length<=1000)(hr:Gh w A l)(hf:LI l=true)(hs:∀i k,i<l.length->k<i->(l.getD i Ax).wr=true->(l.getD k Ax).wr=true->(l.getD i Ax).LD=(l.getD k Ax).LD):
  Calls Tryz.prog 14 #[AR A l.length c] w λe w'=>e=BA ()/\Up w w':=by
 have HR:=I hr;have HS:=I hs;have HF:=I ((T0 l A c w J hr).mono λe w' (h:_/\_)=>show e=BA true/\Up w w' from⟨by rw[h.1,hf],h.2⟩);have hl2:(l.length:tyI)<=1000:=J;clear hr hs hf;go_enter Tryz.func14,Tryz.ntmps14;go_wp2_with fail;refine HF.mono ?_;rintro _ w1 ⟨rfl,hu1⟩;have GR:=I hu1;clear hu1 HF;go_wp2_with fail
 go_loopw[3] (λx wr=> ∃i:Nat,i<=l.length/\x=O i/\Hid (Up w wr)) (λx _=>l.length-(intOf x).toNat)
 case atStart=>exact⟨0,J,rfl,GR⟩
 case round=>
  obtain⟨i,hi,rfl,HV⟩:=hrel;by_cases hlt:i<l.length
  .have hii:(i:tyI)<l.length:=J;have hi0:(0:tyI)<=i:=J;have HI1:=I hlt;go_wp2_with fail
   go_loopw[4] (λy wq=> ∃k:Nat,k<=i/\y=O k/\Hid (Up wr wq)) (λy _=>i-(intOf y).toNat)
   case atStart=>exact⟨0,J,rfl,I (AV _)⟩
   case round=>
    obtain⟨k,hk,rfl,P1⟩:=hrel;by_cases hlk:k<i
    .have hki:(k:tyI)<i:=J;have hkl:(k:tyI)<l.length:=J;have hk0:(0:tyI)<=k:=J;have ig:=I (HS i k HI1 hlk);obtain⟨bi,Cn,eA,S8,i1,i2,i3,i4⟩:=HR.up (HV.trans P1) i HI1;obtain⟨bk,sU,eB,k0,k1,k2,k3,k4⟩:=HR.up (HV.trans P1) k J;subst eA;cases eB
     have ul:=I (λ(m:tyN)=>P1.trans ((AV wr).drewN m));have jL:=I hlk;generalize l.getD i Ax=p at*;generalize l.getD k Ax=q at*;obtain⟨PF,PT,PW,PV,PH⟩:=p;obtain⟨QF,QT,QW,QV,QH⟩:=q;dsimp only at ig S8 i1 i2 i3 i4 k0 k1 k2 k3 k4;clear P1 hk hlk;cases PW
     .go_wp2_with fail;go_quiet(fail);rename_i nq
      go_wp2
      go_roundw
      case rel=>exact⟨k+1,by have:=jL.out;omega,by go_num,I (ul nq)⟩
      case measure=>have:=jL.out;simp[intOf];omega
     .cases QW
      .go_wp2_with fail;go_quiet(fail);rename_i nq
       go_wp2
       go_roundw
       case rel=>exact⟨k+1,by have:=jL.out;omega,by go_num,I (ul nq)⟩
       case measure=>have:=jL.out;simp[intOf];omega
      .have hph:=ig rfl rfl;subst hph;go_wp2_with fail;go_quiet(fail);rename_i nq
       go_wp2
       go_roundw
       case rel=>exact⟨k+1,by have:=jL.out;omega,by go_num,I (ul nq)⟩
       case measure=>have:=jL.out;simp[intOf];omega
    .obtain rfl:k=i:=J;have Yv:=I (HV.trans P1);clear P1 hlk
     go_wp2
     go_roundw
     case rel=>exact⟨k+1,by have:=HI1.out;omega,by go_num,Yv⟩
     case measure=>have:=HI1.out;simp[intOf];omega
  .obtain rfl:i=l.length:=J;clear hlt
   go_wp2
   go_ret;exact⟨rfl,HV⟩
theorem Gh.base{w0:tyW}{A:tyA}(h:Gh w0 A l)(hB:w0.heap.size<=B)(u:Below B w0 w):Gh w A l:=h.up (u.mono hB)
def Jv (l:List C6)(d:tyN)(v:tyI)(T:List St)(B u:tyN)(w:tyW)(tv:tyV)(e:Ending)(w':tyW):Prop:=
 ∃ok tv' T',e=BA (.tuple #[.bool ok,tv'])/\LH l d v T ok T'/\Kw w' B tv' T'/\w.grownBy w' tv.ownBlock/\JG w tv.ownBlock tv'.ownBlock/\KS T'
theorem Lx{d:tyN}{v:tyI}{T:List St}{u:tyN}{tv:tyV}{e:Ending}{w':tyW}(ok:Bool)(tv':tyV)(T':List St)(h:e=BA (.tuple #[ok,tv']))
 (h1:LH l d v T ok T'/\Kw w' B tv' T'/\w.grownBy w' tv.ownBlock/\JG w tv.ownBlock tv'.ownBlock/\KS T'):Jv l d v T B u w tv e w':=⟨ok,tv',T',h,h1⟩
theorem Kg.after{d:tyN}{v:tyI}{T T':List St}{tv x vn:tyV}{wb w2:tyW}{i p:tyN}{e:Ending}(h:Kg l d v T tv w B vn i x T' wb)(hi:i<(Cx l d).length)(hp:(Cx l d).getD i 0=p){m:tyN}(hm:und l (Dk d p)=m)
  (ht:Hi (l.getD p Ax) v=true) (post:Jv l (Dk d p) (Hn (l.getD p Ax) v) T' B m wb x e w2):
  ∃ok x2 T2,e=BA (.tuple #[.bool ok,x2])/\(ok=true->LH l d v T true T2/\Kw w2 B x2 T2/\w.grownBy w2 tv.ownBlock/\JG w tv.ownBlock x2.ownBlock/\KS T2)/\(ok=false->Kg l d v T tv w B vn (i+1) x2 T2 w2):=by
 obtain⟨ok,x2,T2,he,hh,ho,hg,hmv,hl⟩:=post;have hmem:p∈Cx l d:=by rw[<-hp,gD,gG hi];exact KD hi
 refine⟨ok,x2,T2,he,λhok=>?_,λhok=>?_⟩
 .subst hok;refine⟨⟨λ_=> .pick d v p hmem ht (hh.1 rfl),λe=>by cases e⟩,ho,Ih h.gr hg h.blk,h.blk.trans hmv h.gr.size,hl⟩
 .subst hok;refine h.told ho hg hmv ?_ hl;rw[hp];exact hh
theorem aC(l:List C6)(A:tyA)(c:tyN)(w0:tyW)(B:tyN)(hB:w0.heap.size<=B)(hG:Wz l)(hr:Gh w0 A l)(u:tyN):
  ∀(d:tyN) (v:tyI) (tv:tyV) (T:List St) (w:tyW),und l d=u->d<262144->(0<=v/\v<=3)->Below B w0 w->B<=w.heap.size->Kw w B tv T->KS T->
   Calls Tryz.prog 39 #[AR A l.length c,.int .u64 d,v,tv] w λe w'=>Jv l d v T B u w tv e w':=by
 induction u using Nat.strongRecOn with
 |_ u ih=>
 intro d v tv T w hu hd0 hv hw hBw hT hcap;have hL:l.length<=64:=by have:=hG.1;omega
 have hd:d<Nd:=by rw[RY];omega
 have HGL:=I hG;have HD0:=I hd0;have sn:=I hv;have ADO:=I hcap.few;obtain⟨i0,hi,hz0,hz1,hz2⟩:=aU vV;have HI:=I hi;have HZ0:=I hz0;have HZ1:=I hz1;have HZ2:=I hz2;have HIH:=I ih;have HR:=I (λW (b:Below B w0 W)=>hr.base hB b);have OH:=I hu;have HD:=I hd;have HW:=I hw;have ZF:=I hBw;have HT:=I hT;have HCAP:=I hcap;have hl2:(l.length:tyI)<=64:=J;have HLS:=I (λk=>aK l d k);have ACt:=I hL;have HC:=I (λi W (h:i<l.length)=>Re d i W hd J);have ox:Hid (Ry l d=M7 l d l.length):=I rfl;have bQ:Hid (Ry l d=false->LH l d v T true T):=I (λh=>⟨λ_=> .all d v h,λe=>by cases e⟩);have zf:=I (World.grownBy.refl w tv.ownBlock);obtain⟨TA,tcc,rfl,htc⟩:=lJ hT;have HTC:=I htc;have htl:(T.length:tyI)<=1000000000:=by have:=ADO.out;omega
 clear hi hz0 hz1 hz2 ih hr hu hd hw hT hcap hB hL hBw htc hG hd0 hv;have HRW:=I (HR w HW);go_enter Tryz.func39,Tryz.ntmps39;go_wp2_with fail
 go_loop[10,11] (λx y=> ∃k:Nat,k<=l.length/\y=O k/\x= .bool (M7 l d k)) (λ_ y=>l.length-(intOf y).toNat)
 case atStart=>exact⟨0,J,rfl,rfl⟩
 case round=>
  obtain⟨k,hk,rfl,rfl⟩:=hrel;by_cases hlk:k<l.length
  .have hki:(k:tyI)<l.length:=J;have hk0:(0:tyI)<=k:=J;have HS:=I (HLS k);have Vm:=I (HC k w hlk);obtain⟨bk,sU,rfl,k0,k1,k2,k3,k4⟩:=HRW k hlk;generalize hm2:M7 l d (k+1)=m2 at*;have jF:=I hm2;clear hm2;generalize M7 l d k=m at*;generalize l.getD k Ax=q at*;generalize hasB d k=hb at*;obtain⟨QF,QT,QW,QV,QH⟩:=q;dsimp only at HS k0 k1 k2 k3 k4;cases m
   .cases jb:(QT != -1)
    .have HN:Hid (m2=false):=I (by rw[HS,jb];rfl);clear HS k0 k2 k3 k4
     go_wp2
     go_round
     case rel=>exact⟨k+1,J,by go_num,by rw[jF,HN]⟩
     case measure=>simp[intOf];omega
    .have HN:Hid (m2= !hb):=I (by rw[HS,jb];rfl);clear HS k0 k2 k3 k4;go_wp2_with fail;refine Vm.mono ?_;rintro _ _ ⟨rfl,rfl⟩
     go_wp2
     go_round
     case rel=>exact⟨k+1,J,by go_num,by rw[jF,HN]⟩
     case measure=>simp[intOf];omega
   .have HN:Hid (m2=true):=I (by rw[HS];rfl);clear HS k0 k1 k2 k3 k4
    go_wp2
    go_round
    case rel=>exact⟨k+1,J,by go_num,by rw[jF,HN]⟩
    case measure=>simp[intOf];omega
  .obtain rfl:k=l.length:=J;clear hlk;rw[<-ox];cases hlb:Ry l d
   .have HO:=I (bQ hlb);clear hlb
    go_wp2
    go_ret2;exact Lx _ _ T rfl ⟨HO,HT,zf,.inl rfl,HCAP⟩
   .have Ea:=I hlb;clear hlb bQ HLS;go_wp2_with fail
    go_loop[12] (λy=> ∃j:Nat,j<=T.length/\y=O j/\Hid (∀k,k<j->T.getD k st0≠(d,v))) (λy=>T.length-(intOf y).toNat)
    case atStart=>exact⟨0,J,rfl,I (λk hk=>absurd hk (Uu k))⟩
    case round=>
     obtain⟨j,hj,rfl,oH⟩:=hrel;by_cases hlj:j<T.length
     .have hji:(j:tyI)<T.length:=J;have hj0:(0:tyI)<=j:=J;obtain⟨g,rfl,t0,t1⟩:=HTC j hlj;have bU:Hid (T.getD j st0=(d,v)->(d,v)∈T):=I (λe=>by rw[<-e,gD,gG hlj];exact KD hlj);have P2:Hid (T.getD j st0≠(d,v)->∀k,k<j+1->T.getD k st0≠(d,v)):=I (λh k hk=>(CR k j).elim (oH k) λg=>by rw[show k=j by omega];exact h);generalize T.getD j st0=s at*;obtain⟨sd,sv⟩:=s;dsimp only at t0 t1;by_cases h1:sd=d
      .subst h1;by_cases h2:sv=v
       .subst h2;have HM3:=I (bU rfl);clear bU
        go_wp2
        go_ret2;exact Lx false _ T rfl ⟨⟨(λe=>by cases e),λ_=>⟨HM3,[],Az,λs hs=>by cases hs⟩⟩,HT,zf,.inl rfl,HCAP⟩
       .have h2b:(sv==v)=false:=Dy.2 h2;have HM4:=I (P2 λe=>h2 (DJ Prod.snd e));clear h2 bU P2
        go_wp2
        go_round
        case rel=>exact⟨j+1,J,by go_num,HM4⟩
        case measure=>simp[intOf];omega
      .have h1b:((sd:tyI)==(d:tyI))=false:=Dy.2 J;have HM4:=I (P2 λe=>h1 (DJ Prod.fst e));clear h1 bU P2
       go_wp2
       go_round
       case rel=>exact⟨j+1,J,by go_num,HM4⟩
       case measure=>simp[intOf];omega
     .obtain rfl:j=T.length:=J;clear hlj;have AHg:Hid ((T.length+1)*16<=140737488355328):=I (by have:=ADO.out;omega)
      have HGT:=I (HCAP.push HD0 sn λhm=>by
       obtain⟨k,hk,ek⟩:=Dj hm
       exact oH k hk (by rw[gD,gG hk,ek];rfl))
      go_wp2_with(at_builtin;refine Ux (news:=[.int .u64 d,.int .i64 v]) rfl (.tmp 66) (.tmp 70) 84 rfl B i0 (.agg #[.int .u64 0,()]) 2 16 Tryz.underlying84 HI HZ0 HZ1 HZ2 rfl AQ _ T.length (J3 T) rfl HT rfl rfl (by simp[Value.oneCell']) AQ AHg ZF ?_;intro x1 w1 hown1 hg1 hm1)
      have dW:Hid (Kw w1 B x1 (T++[(d,v)])):=I (by
       unfold Kw;rw[Gx,Sj]
       exact hown1)
      have jE:Hid (w.grownBy w1 (Value.slice TA T.length tcc).ownBlock):=I hg1;have HM1:Hid (JG w (Value.slice TA T.length tcc).ownBlock x1.ownBlock):=I hm1;have HW1:=I (HW.grown hg1 ZF (λk hk=>(HT.lt k hk).1));clear hown1 hg1 hm1;have QE:=I (kB l A c d w1 ACt HD (HR w1 HW1));go_wp2_with fail;refine QE.mono ?_;rintro _ w2 ⟨vn,rfl,hon,hu2⟩;have ADP:=I (Kg.start HGT dW jE HM1 hu2 hon);have HBW2:=I (DB ZF (DB jE.size hu2.size));clear hu2;obtain⟨NA,ncc,rfl,_⟩:=dM hon;have HNL:=I (lN l d);clear hon;go_wp2_with fail
      go_loopw[3,14] (λx y wr=> ∃i:Nat,∃T':List St,i<=(Cx l d).length/\y=O i/\Hid (Kg l d v T (AR TA T.length tcc) w B (AR NA (Cx l d).length ncc) i x T' wr)) (λ_ y _=>(Cx l d).length-(intOf y).toNat)
      case atStart=>exact⟨0,_,J,rfl,ADP⟩
      case round=>
       obtain⟨i,T',hi,rfl,HV⟩:=hrel;by_cases ot:i<(Cx l d).length
       .have hii:(i:tyI)<(Cx l d).length:=J;have hn64:((Cx l d).length:tyI)<=64:=by have h1:(Cx l d).length<=l.length:=UE l d l.length;omega
        have hi0:(0:tyI)<=i:=J;have ZB:=I (HW.grown HV.gr ZF (λk hk=>(HT.lt k hk).1));obtain⟨NA',ncc',heq,hnc⟩:=dM HV.nx;injection heq with hq1 hq2 hq3
        subst hq1 hq3;obtain⟨ng,rfl,hn0⟩:=hnc i ot;have bU:Hid ((Cx l d).getD i 0∈Cx l d):=I (by rw[gD,gG ot];exact KD ot);have hpl:=(Wh bU).1;obtain⟨bk,sU,rfl,k0,k1,k2,k3,k4⟩:=HR wr ZB _ hpl;have ig:=I (λh=>HV.skip h);generalize hp:(Cx l d).getD i 0=p at*;have HP:=I hp;have hpi:(p:tyI)<l.length:=J;have hp0:(0:tyI)<=p:=J;clear hp hpl hnc hq2 ADP QE jE HM1 dW HW1;have HPO:Hid (∃F T Wr AF Th,l.getD p Ax=⟨F,T,Wr,AF,Th⟩):=I ⟨_,_,_,_,_,rfl⟩;obtain⟨QF,QT,QW,QV,QH,hQ⟩:=HPO.out;rw[hQ]at k0 k1 k2 k3 k4;dsimp only at k0 k1 k2 k3 k4;have HQ:=I hQ;clear hQ HPO;have GR:=I ((AV wr).alloc (Y #[QF,QT,QW,QV,QH] 81));have HB1:=I (Ah wr (Y #[QF,QT,QW,QV,QH] 81));have sZ:=I (HV.up GR);have hng:=AJ hn0;have yM:=I (gN d p (wr.alloc (Y #[QF,QT,QW,QV,QH] 81)) HD J);have HWL:=I (Xx HD (show p<64 by omega));have Mb:=I (fJ bU);have SP:=I (λa (h:Hn (l.getD p Ax) v=a)=>HIH (und l (Dk d p)) (by have:=Mb.out;have:=OH.out;omega) (Dk d p) a u3 T' (wr.alloc (Y #[QF,QT,QW,QV,QH] 81)) rfl (WN HD0 (by have:=HGL.1;omega)) (h▸HGL.after J sn) (HW.grown sZ.gr ZF (λk hk=>(HT.lt k hk).1)) (DB ZF sZ.gr.size) sZ.own sZ.len);clear HIH;cases QW
        .by_cases jb:QT= -1
         .subst jb;have bM:Hid (Hi (l.getD p Ax) v=true):=I (by rw[HQ];rfl);have un:Hid (Hn (l.getD p Ax) v=v):=I (by rw[HQ];rfl);have Px:=I (SP v un);have HAF:=I (λe w3 (hpost:Jv l (Dk d p) v T' B (und l (Dk d p)) _ _ e w3)=>sZ.after ot HP rfl bM (by rw[un];exact hpost));clear SP;go_wp2_with fail;refine yM.mono ?_;rintro _ wy ⟨rfl,uB⟩;cases uB
          go_wp2_with fail;refine Px.mono ?_;rintro _ w3 hpost;obtain⟨ok,x2,T2,rfl,Y7,hno⟩:=HAF _ w3 hpost;clear hpost;have bT:=I Y7;have jR:=I hno;clear Y7 hno hn0 hng k0 k1 k2 k3 k4;cases ok
          .have oU:=I (jR rfl)
           go_wp2
           go_roundw
           case rel=>exact⟨i+1,T2,J,by go_num,oU⟩
           case measure=>simp[intOf];omega
          .have yX:=I (bT rfl)
           go_wp2
           go_ret2;exact Lx true _ T2 rfl yX
         .have UV:(QT== -1)=false:=Dy.2 jb;by_cases hqv:QV=v
          .subst hqv;clear jb;have bM:Hid (Hi (l.getD p Ax) QV=true):=I (by rw[HQ];simp[Hi]);have un:Hid (Hn (l.getD p Ax) QV=QV):=I (by rw[HQ];rfl);have Px:=I (SP QV un);have HAF:=I (λe w3 (hpost:Jv l (Dk d p) QV T' B (und l (Dk d p)) _ _ e w3)=>sZ.after ot HP rfl bM (by rw[un];exact hpost));clear SP;go_wp2_with fail;refine yM.mono ?_;rintro _ wy ⟨rfl,uB⟩;cases uB
           go_wp2_with fail;refine Px.mono ?_;rintro _ w3 hpost;obtain⟨ok,x2,T2,rfl,Y7,hno⟩:=HAF _ w3 hpost;clear hpost;have bT:=I Y7;have jR:=I hno;clear Y7 hno hn0 hng k0 k1 k2 k3 k4;cases ok
           .have oU:=I (jR rfl)
            go_wp2
            go_roundw
            case rel=>exact⟨i+1,T2,J,by go_num,oU⟩
            case measure=>simp[intOf];omega
           .have yX:=I (bT rfl)
            go_wp2
            go_ret2;exact Lx true _ T2 rfl yX
          .have hvb:(QV==v)=false:=Dy.2 hqv;have AHj:=I ((ig (by rw[HQ];unfold Hi;dsimp only;rw[UV,hvb];rfl)).up GR);clear ig SP jb hqv
           go_wp2
           go_roundw
           case rel=>exact⟨i+1,T',J,by go_num,AHj⟩
           case measure=>simp[intOf];omega
        .have bM:Hid (Hi (l.getD p Ax) v=true):=I (by rw[HQ];rfl);have un:Hid (Hn (l.getD p Ax) v=QV):=I (by rw[HQ];rfl);have Px:=I (SP QV un);have HAF:=I (λe w3 (hpost:Jv l (Dk d p) QV T' B (und l (Dk d p)) _ _ e w3)=>sZ.after ot HP rfl bM (by rw[un];exact hpost));clear SP;go_wp2_with fail;refine yM.mono ?_;rintro _ wy ⟨rfl,uB⟩;cases uB
         go_wp2_with fail;refine Px.mono ?_;rintro _ w3 hpost;obtain⟨ok,x2,T2,rfl,Y7,hno⟩:=HAF _ w3 hpost;clear hpost;have bT:=I Y7;have jR:=I hno;clear Y7 hno hn0 hng k0 k1 k2 k3 k4;cases ok
         .have oU:=I (jR rfl)
          go_wp2
          go_roundw
          case rel=>exact⟨i+1,T2,J,by go_num,oU⟩
          case measure=>simp[intOf];omega
         .have yX:=I (bT rfl)
          go_wp2
          go_ret2;exact Lx true _ T2 rfl yX
       .obtain rfl:i=(Cx l d).length:=J;clear ot;have M3:=I (And.intro (HV.out.out Ea) (And.intro HV.own (And.intro HV.gr (And.intro HV.blk HV.len))))
        go_wp2
        go_ret2;exact Lx false _ T' rfl M3
theorem a8(l:List C6)(A:tyA)(c:tyN)(v:tyI)(w:tyW)(hG:Wz l)(hv:0<=v/\v<=3)(hr:Gh w A l):
  Calls Tryz.prog 17 #[AR A l.length c,v] w λe w'=> ∃ok:Bool,e=BA (.bool ok)/\(ok=true↔Ow l 0 v)/\Up w w':=by
 have HC:=I (aC l A c w w.heap.size (A9 _) hG hr (und l 0) 0 v sN [] w rfl AQ hv (Hx _ _) (A9 _) (C3 _ _ _ _) ⟨List.nodup_nil,λs hs=>by cases hs⟩)
 have HG:Hid (∀e w',Jv l 0 v [] w.heap.size (und l 0) w sN e w'->∃ok x,e= .returned (.tuple #[.bool ok,x])/\(ok=true↔Ow l 0 v)/\Up w w'):=I (λe w' h=>by
  obtain⟨ok,x,T',he,hh,_,hg,_,_⟩:=h
  exact⟨ok,x,he,hh.comp,⟨hg.os,hg.tape,hg.output,hg.size,λk hk=>hg.block k hk (by simp[Value.ownBlock])⟩⟩)
 clear hG hr hv;generalize l.length=n at*;go_enter Tryz.func17,Tryz.ntmps17;go_wp2_with fail;refine HC.mono ?_;rintro _ w1 hpost;obtain⟨ok,x,rfl,hiff,hu⟩:=HG _ _ hpost;have AHk:=I hiff;have HU:=I hu;clear hpost hiff hu
 go_wp2
 go_ret;refine⟨ok,rfl,AHk,HU⟩
end
end Go.Proofs.YtpodgcpkccpnfaaGreat
