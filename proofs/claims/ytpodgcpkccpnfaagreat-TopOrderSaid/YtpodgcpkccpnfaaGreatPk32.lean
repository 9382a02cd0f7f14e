/-
  PROVED: TopOrder returns true for every input, and leaves its arguments as they were. No condition.
-/
import Derived.Test.YtpodgcpkccpnfaaGreatRows
import Derived.Test.YtpodgcpkccpnfaaGreatPk16
import Derived.Test.YtpodgcpkccpnfaaGreatPk31
set_option linter.unusedVariables false
set_option linter.unusedSimpArgs false
set_option maxRecDepth 20000
set_option maxHeartbeats 40000000
namespace Go.Proofs.YtpodgcpkccpnfaaGreat
variable{sc:MN}
section
open Go.RowKit
theorem XH{n:tyN}{l:List BL}(h:∀i,i<l.length->DT n (l.getD i Bd)):∀k,k<=l.length->((((List.range k).map λj=>PG (l.getD j ⟨0,0,true⟩)).sum:tyN):tyI)=B3 (l.take k)
 |0,_=>rfl
 |k+1,hk=>by
  have ih:=XH h k J;rw[MQ,Gu,List.sum_append,Gm l J,Int.natCast_add,ih]
  have e:l.getD k ⟨0,0,true⟩=l.getD k Bd:=by
   rw[gD,gD,gG (show k<l.length by omega)];rfl
  have hp:=(h k J).2;simp only[Gf,jx,List.sum_cons,List.sum_nil,LB];rw[e];unfold PG;rcases hp with⟨h1,h2⟩|⟨h1,h2,h3⟩
  .rw[AK h1,h2];rfl
  .rw[AI (by rw[h1];decide)];omega
def Fk (r:U3)(sc:MN):List D6:=(B7 (jM r.k r.n sc.draws) sc.picks sc.picks.length (Cv sc.AH)).2
def Jo (r:U3)(sc:MN):List C6:=OD sc.AH (Fk r sc) (Fk r sc).length
theorem b8{r:U3}(hS:VL r sc)(h6:∀t,(sc.AH.getD t []).length<=6):
  (∀e,e∈Fk r sc->∃t c:Nat,EvT sc.AH e t c/\(e.kind=1->c<(sc.AH.getD t []).length))/\LI (Jo r sc)=true/\Wz (Jo r sc)/\(r.k<4->mA (Jo r sc) 0/\∀i k,i<(Jo r sc).length->k<i->((Jo r sc).getD i Ax).wr=true->((Jo r sc).getD k Ax).wr=true->((Jo r sc).getD i Ax).LD=((Jo r sc).getD k Ax).LD)/\(4<=r.k->Ow (Jo r sc) 0 0):=by
 have hn:=r.hn;have hlen:=hS.len;obtain⟨H,C,hE,hL,hF,hA,FU⟩:=gA (jM r.k r.n sc.draws) sc.AH J (λc t=>D7.off c t) sc.picks sc.picks.length;have hE:Fk r sc=H.filterMap SX:=hE;obtain⟨ix,hH⟩:=uo hL;have hts:=XH hS.ok.pk sc.picks.length (A9 _);rw[IR]at hts;have hst:=hS.ok.st;have ADJ:∀A,A∈H->A.now<=4000:=λA h=>by have:=FU A h;omega
 have hOL:Jo r sc=OD sc.AH (H.filterMap SX) (H.filterMap SX).length:=by unfold Jo;rw[hE]
 rw[<-hOL]at hH
 have h18:(Jo r sc).length<=18:=by
  have:=AAu (L:=Jo r sc) (ix:=ix) (a:=3) (b:=6) (λj k hj hk e=>hH.inj hj hk e) λk hk=>by
   obtain⟨h1,c,h2,_⟩:=hH.at' k hk;have h3:=hL.len h1;have h4:=h6 (ix k).1;have h5:=(Be.1 h2).1;omega
  omega
 have hwr:∀k,k<(Jo r sc).length->(((Jo r sc).getD k Ax).wr=true↔(AN sc.AH (ix k).1 (ix k).2).1=16):=λk hk=>hH.wr hk
 refine⟨λe he=>?_,hH.fine hL hF J,⟨h18,λk hk hw=>?_⟩,λh3=>?_,λh4=>?_⟩
 .rw[hE]at he;obtain⟨A,hA2,hv⟩:=bu.1 he;obtain⟨p,hp,e2⟩:=Dj hA2;obtain⟨g1,g2⟩:=jd hv;obtain⟨c1,c2⟩:=hL.Rm p A (by rw[gG hp,e2]);refine⟨A.t,A.i,⟨g1,g2,c1⟩,λhk=>?_⟩;rcases c2 with c2|⟨d,c2,c3⟩
  .unfold SX at hv;rw[c2]at hv;cases hv
   have hk:(4:tyI)=1:=hk;exact absurd hk AQ
  .exact(hL.call A.t c1 A.i d (Cw c2)).lt
 .have h16:=(hwr k hk).1 hw;obtain⟨_,c,_,_,c3⟩:=hH.at' k hk;have hv:=aA hS h16;have htop:Ez r.k<=3:=by unfold Ez;split<;>decide
  have:((Jo r sc).getD k Ax).val=(AN sc.AH (ix k).1 (ix k).2).2.2:=by rw[c3];unfold opC;rw[AK h16]
  rw[this];omega
 .have hR:=ma hS h3 hL hA;refine⟨hR.zu J hH hL hF,λi k hi hk h1 h2=>?_⟩;rw[hR.own hH hi h1,hR.own hH J h2]
 .obtain⟨tag,Gw,hT⟩:=lI hS h4 hL hF hA ADJ λt=>by have:=h6 t;omega
  exact hT.comp hH hL hF J
theorem lO(AH:List (List CD))(l:List D6)(i:tyN):OD AH l (i+1)=OD AH l i++(O8 AH l i).toList:=by
 unfold OD;rw[MQ,Po];congr 1
theorem qN(AH:List (List CD))(l:List D6)(i:tyN):(OD AH l i).length<=i:=by
 unfold OD;exact DB (List.length_filterMap_le _ _) (by rw[Uq];exact A9 _)
def rkI:Option Nat->Int
 |none=> -1
 |some k=>k
def VB (l:List D6):Option Nat->Int
 |none=> -1
 |some k=>(l.getD k En).at'
def So (l:List D6)(y0 y2:tyI):Option Nat->Int
 |none=>if y0=16 then y2 else 0
 |some k=>if y0=16 then y2 else(l.getD k En).YU
def u6 (l:List D6):Option Nat->Bool
 |none=>true
 |some k=>decide ((l.getD k En).err=0)
theorem qq{l:List D6}{a:tyN}{e:D6}{rk:Option Nat}(h:OP l a e=rk):YP l a e=rkI rk:=by
 unfold YP;rw[h];cases rk<;>rfl
theorem pp{l:List D6}{a k:tyN}{e:D6}(h:OP l a e=some k):k<l.length:=by
 unfold OP at h;have:=tU h;rwa[Dz]at this
theorem pf(l:List D6)(y0 y2 x0 x4 x5 x6:tyI)(t c:tyN)(rk:Option Nat):(vk (y0,0,y2) ⟨x0,1,t,c,x4,x5,x6⟩ (rk.map λk=>l.getD k En)).toList=if u6 l rk=true then[⟨x0,VB l rk,decide (y0=16),So l y0 y2 rk,t⟩]else[]:=by
 cases rk with
 |none=>rfl
 |some k=>
  show Option.toList (if(l.getD k En).err=0 then _ else _)=if decide ((l.getD k En).err=0)=true then _ else _
  by_cases he:(l.getD k En).err=0
  .rw[AK he,Fi he,AK rfl];rfl
  .rw[AI he,DF he,AI AQ];rfl
def OwnOps (w:tyW)(q:tyN)(v:tyV)(L:List C6):Prop:=w.ownsRow q 81 5 v L.length (JA L)
theorem pi:(Tryz.prog.info? 81).map (λi=>(i.zero,i.size,i.bytes))=some (some (.agg #[(),(),false,(),()]),5,40):=Ay
theorem lw{a:V4}(l:List D6)(A:tyA)(cp:tyN)(w:tyW)(hs:EF w sc a)(hl:l.length<=100000000)(hr:NZ w A l)(hin:∀i,i<l.length->∃t c,EvT sc.AH (l.getD i En) t c/\((l.getD i En).kind=1->c<(sc.AH.getD t []).length))(hn:sc.AH.length<=8)
  (hop:∀t c,c∈sc.AH.getD t []->(c.1=15\/c.1=16)/\c.2.1=0):
  Calls Tryz.prog 13 #[.agg (gQ a sc),AR A l.length cp,()] w λe w'=>
   (∃v,e=BA v/\OwnOps w' w.heap.size v (OD sc.AH l l.length))/\Up w w':=by
 have HB0:Hid (G2 w (w.alloc (Y (FW sc a) 27)) (FW sc a)):=I ⟨AV _⟩;have QJ:=I (λ(wr:tyW) (h:G2 w wr (FW sc a))=>show V wr w 1 (AR a.PA sc.AH.length a.pc)from h.cell 1);have HS:=I hs;have HR:=I hr;have jQ:=I hin;have HOP:=I hop;have HLS:=I (λi=>lO sc.AH l i);have xB:=I (λi=>qN sc.AH l i);have zY:Hid (∀W,OwnOps W (w.heap.size+1) sN (OD sc.AH l 0)):=I λW=>C3 _ _ _ _
 have HRP:=I (λ(W:tyW) (u:Up w W) (i:tyN) (e:D6) (hi:i<=l.length)=>ef l A cp i e W hi hl (hr.up u));obtain⟨i0,hi',hz0,hz1,hz2⟩:=info_parts pi;have V8:=I hi';have HZ0:=I hz0;have HZ1:=I hz1;have HZ2:=I hz2;have HN8:=I hn;clear hs hr hin hi' hz0 hz1 hz2 hop;generalize hnl:l.length=n at jQ hl HRP|-;have HNL:=I hnl;have c1:=QJ _ HB0;unfold FW at HB0 c1;go_enter Tryz.func13,Tryz.ntmps13;go_wp2_with fail;have HB1:Hid (G2 w (w.alloc (Y (gQ a sc) 27)) (FW sc a)):=I HB0.out;clear HB0 c1
 go_loopw[7,8] (λov x wr=> ∃i:Nat,i<=n/\x=O i/\Hid (OwnOps wr (w.heap.size+1) ov (OD sc.AH l i))/\Hid (G2 w wr (FW sc a))) (λ_ x _=>n-(intOf x).toNat)
 case atStart=>exact⟨0,J,rfl,I (zY _),HB1⟩
 case round=>
  obtain⟨i,hi,rfl,HA,HV⟩:=hrel;by_cases hlt:i<n
  .have hii:(i:tyI)<n:=J;have hi0:(0:tyI)<=i:=J;have hib:(i:tyI)<=100000000:=J;obtain⟨b,off,eA,hx⟩:=(HR.up HV.w) i (by rw[HNL];exact hlt);obtain⟨t,c,hT,hcl⟩:=jQ i hlt;by_cases hk:(l.getD i En).kind=1;rotate_left
   .have HTI:=I (show OD sc.AH l (i+1)=OD sc.AH l i from by rw[HLS];unfold O8;rw[AI hk];exact Jc _);clear hT hcl;generalize l.getD i En=ev at*;obtain⟨x0,x1,x2,x3,x4,x5,x6⟩:=ev;have hk2:(x1==1)=false:=Dy.2 hk;have hk3:¬x1=1:=hk;have hk4:(x1 !=1)=true:=by simpa using hk
    have nI:=I (Zb wr ⟨x0,x1,x2,x3,x4,x5,x6⟩ 60);have Y6:=I ((AV wr).alloc (Y (tK ⟨x0,x1,x2,x3,x4,x5,x6⟩) 60));unfold tK at nI Y6;dsimp only at nI Y6;obtain⟨W1,hW1⟩:=gX (wr.alloc (Y #[x0,x1,x2,x3,x4,x5,x6] 60));obtain⟨e0,e1,e2,e3,e4,e5,e6⟩:=hx;dsimp only at e0 e1 e2 e3 e4 e5 e6;obtain⟨q,hq⟩:=gX wr.heap.size;rw[hW1,hq]at nI;rw[hW1]at Y6;have d1:=nI.c1;have zj:=I (HV.go Y6);have sV:Hid (OwnOps W1 (w.heap.size+1) u7 (OD sc.AH l (i+1))):=I (by rw[HTI];exact AS HA λk e=>Y6.block k (CX HA k e).2);have HJ:=I (And.intro hlt hib);rw[eA];clear HA hk;go_upto_region 6 with fail
    try simp only[hW1]
    clear e0 e1 e2 e3 e4 e5 e6 nI;clear hW1;go_quiet(fail);rename_i nq;clear d1;have hUN:Up W1 (W1.drewN nq):=(AV W1).drewN nq;have FA:=I (zj.go hUN);have UQ:Hid (OwnOps (W1.drewN nq) (w.heap.size+1) u7 (OD sc.AH l (i+1))):=I (AS sV λk e=>hUN.block k (CX sV k e).2);clear hUN;generalize W1.drewN nq=W2 at*
    go_wp2
    go_roundw
    case rel=>refine⟨i+1,HJ.1,?_⟩;first|exact UQ|exact⟨UQ,FA⟩|exact⟨by first|rfl|go_num,UQ⟩|exact⟨by first|rfl|go_num,UQ,FA⟩
    case measure=>have:=HJ.out.1;simp[intOf];omega
   .have hcl:=hcl hk;obtain⟨ADL,AHQ⟩:=HOP t _ (getD_in _ hcl (0,0,0));have HOI:=I (show O8 sc.AH l i=vk (mV sc.AH (l.getD i En)) (l.getD i En) ((OP l (i+1) (l.getD i En)).map λk=>l.getD k En)from by unfold O8;rw[AK hk]);have hcd:mV sc.AH (l.getD i En)=(sc.AH.getD t []).getD c (0,0,0):=by unfold mV;rw[hT.ht,hT.hc,Gl,Gl]
    obtain⟨pb,oP,A',c',eP,p0,p1,p2,p3,p4⟩:=HS.pr t hT.tn;obtain⟨b2,Kn,eC,k0,k1,k2⟩:=p1 c hcl;have hlp:=AJ p0;have hlc:=AJ k0;have p0:=(HV.w.cell hlp).trans p0;have k0:=(HV.w.cell hlc).trans k0;have k1:=(HV.w.cell hlc).trans k1;have k2:=(HV.w.cell hlc).trans k2;have HLP:=I (And.intro hlp hlc);clear hlp hlc;have h1:=hT.ht;have h2:=hT.hc;have htn:(t:tyI)<sc.AH.length:=by have:=hT.tn;omega
    have hcn:(c:tyI)<(sc.AH.getD t []).length:=J;have ht0:(0:tyI)<=t:=J;have hc0:(0:tyI)<=c:=J;have c1:=QJ _ HV;obtain⟨m,hm⟩:=gX ((sc.AH.getD t []).length);obtain⟨pn,hpn⟩:=gX sc.AH.length;rw[hm]at p0 p2 hcn;rw[hpn]at htn c1;rw[eP]at c1;rw[eC]at p0;rw[hcd]at HOI;generalize(sc.AH.getD t []).getD c (0,0,0)=cd at*;have HRE:=I (λ(W:tyW) (u:Up w W)=>HRP W u (i+1) (l.getD i En) hlt);generalize l.getD i En=ev at*;obtain⟨x0,x1,x2,x3,x4,x5,x6⟩:=ev;obtain⟨y0,y1,y2⟩:=cd;have h1:x2=(t:tyI):=h1;have h2:x3=(c:tyI):=h2;have hk:x1=1:=hk;have hy:y1=0:=AHQ;subst h1 h2 hk hy
    try clear h1
    try clear h2
    have nI:=I (Zb wr ⟨x0,1,t,c,x4,x5,x6⟩ 60);have Y6:=I ((AV wr).alloc (Y (tK ⟨x0,1,t,c,x4,x5,x6⟩) 60));unfold tK at nI Y6;dsimp only at nI Y6;obtain⟨W1,hW1⟩:=gX (wr.alloc (Y #[x0,O 1,O t,O c,x4,x5,x6] 60));obtain⟨e0,e1,e2,e3,e4,e5,e6⟩:=hx;dsimp only at e0 e1 e2 e3 e4 e5 e6 k0 k1 k2 ADL;obtain⟨q,hq⟩:=gX wr.heap.size;rw[hW1,hq]at nI;rw[hW1]at Y6;have hbk:=Ah wr (Y #[x0,O 1,O t,O c,x4,x5,x6] 60);rw[hW1,hq]at hbk;have r9:=I (λ(W:tyW) (u:Up W1 W)=>show BR W q #[x0,O 1,O t,O c,x4,x5,x6] 60 from(u.block _ (gE hbk).1).trans hbk);clear hbk
    have Gq:=I (λ(W:tyW) (u:Up W1 W)=>show(V W q 0 x0/\V W q 1 (O 1)/\V W q 2 (O t)/\V W q 3 (O c)/\V W q 4 x4/\V W q 5 x5/\V W q 6 x6)/\
      V W w 1 (BG pb oP pn a.pc)/\V W pb (oP+t) (BG b2 Kn m c')/\V W b2 (Kn+c*3) y0/\V W b2 (Kn+c*3+1) ()/\V W b2 (Kn+c*3+2) y2 from
     ⟨⟨(u.cell (AJ nI.c0)).trans nI.c0,(u.cell (AJ nI.c1)).trans nI.c1,(u.cell (AJ nI.c2)).trans nI.c2,(u.cell (AJ nI.c3)).trans nI.c3,(u.cell (AJ nI.c4)).trans nI.c4,(u.cell (AJ nI.c5)).trans nI.c5,(u.cell (AJ nI.c6)).trans nI.c6⟩,
       ((Y6.trans u).cell (AJ c1)).trans c1,((Y6.trans u).cell (AJ p0)).trans p0,((Y6.trans u).cell (AJ k0)).trans k0,((Y6.trans u).cell (AJ k1)).trans k1,((Y6.trans u).cell (AJ k2)).trans k2⟩)
    have zj:=I (HV.go Y6);have HJ:=I (And.intro hlt hib);rw[eA];clear hT hcl p0 p1 p2 p3 p4 k0 k1 k2 c1 hm hpn
    try clear p0
    try clear k0
    try clear k1
    try clear k2
    try clear c1
    try clear eP eC
    have g1:¬(t:tyI)<0:=J;have g2:¬pn<=t:=J;have g3:¬(c:tyI)<0:=J;have g4:¬m<=c:=J;go_upto_region 6 with fail
    try simp only[hW1]
    obtain⟨⟨d0,d1,d2,d3,d4,d5,d6⟩,s1,s2,s3,s4,s5⟩:=Gq W1 (AV W1);clear e0 e1 e2 e3 e4 e5 e6 nI;clear hW1;go_quiet(fail);rename_i nq;go_upto_region 7 with fail;clear d0 d1 d2 d3 d4 d5 d6 s1 s2 s3 s4 s5;have zk:=I ((AV W1).drewN nq);have jS:=I (zj.go zk);generalize W1.drewN nq=W2 at*;refine Br (S:=λW=>(V W q 0 x0/\V W q 1 (O 1)/\V W q 2 (O t)/\V W q 3 (O c)/\V W q 4 x4/\V W q 5 x5/\V W q 6 x6)/\V W w 1 (BG pb oP pn a.pc)/\V W pb (oP+t) (BG b2 Kn m c')/\V W b2 (Kn+c*3) y0/\V W b2 (Kn+c*3+1) ()/\V W b2 (Kn+c*3+2) y2) Ay (Gq W2.drew zk.drew) (λhS0=>?_);refine tq 0 hS0 ?_;refine tq 1 hS0 ?_;refine tq 2 hS0 ?_;refine tq 3 hS0 ?_;refine tq 4 hS0 ?_;refine tq 5 hS0 ?_;refine tq 6 hS0 ?_;refine tq 7 hS0 ?_;refine tq 8 hS0 ?_;refine tq 9 hS0 ?_;refine tr 10 λK hK=>?_
    go_simp;obtain⟨W3,hW3⟩:=gX ((W2.alloc (Y #[(),(),()] 65)).drew);have Hg:=I (show Up W2 W3 from by rw[<-hW3];exact((AV W2).alloc _).drew);have hb3:BR W3 W2 #[(),(),()] 65:=by rw[<-hW3];exact Ah W2 _
    obtain⟨cb,hcb⟩:=gX W2.heap.size;rw[hW3];rw[hcb]at hb3|-;have HB3:=I hb3;have HCB:=I (show W2.heap.size<=cb by omega);clear hW3 hcb hb3;refine bk hK (Gq _ (zk.trans Hg)) λhS1=>?_
    refine tr 11 λK hK=>?_
    have hb3:=HB3.out;have q0:=cI hb3 0;have q1:=cI hb3 1;have q2:=cI hb3 2;have f0:=fI hb3 0;have f1:=fI hb3 1;have f2:=fI hb3 2;have oS:=I (AT (AT (AT hb3 0 y0) 1 ()) 2 y2);have ZD:=I (show Up W2 _ from C5 (p:=aD cb 2) (C5 (p:=aD cb 1) (C5 (p:=aD cb 0) Hg HCB y0) HCB ()) HCB y2);clear hb3;go_simp;refine bk hK (Gq _ (zk.trans ZD)) λhS2=>?_
    refine CN Ay ?_ _
    try simp only[Act.put,DH,DI,DG,Ei,Ef,Ee]
    clear hS0 hS1 hS2 q0 q1 q2 f0 f1 f2;generalize hW4:(((W3.setCell (aD cb 0) y0).setCell (aD cb 1) ()).setCell (aD cb 2) y2)=W4 at oS ZD|-;simp only[DH,DG,DI]at oS;clear hW4 Hg HB3;have Pz:=I (zk.trans ZD);have IM:=I (jS.go ZD);have xG:Hid (OwnOps W4 (w.heap.size+1) u7 (OD sc.AH l i)):=I (AS HA λk e=>(Y6.trans Pz).block k (CX HA k e).2)
    have Px:=I (λ(W:tyW) (u:Up W4 W)=>show V W cb 0 y0/\V W cb 1 ()/\V W cb 2 y2 from by
     have h:=(u.block _ (gE oS).1).trans oS
     exact⟨AL h 0,AL h 1,AL h 2⟩)
    have Ks:=I (λ(W:tyW) (u:Up W4 W)=>(Gq W (Pz.trans u)).1);have AHS:=I (r9 _ Pz);have sk:=I (HLS i);have AHT:=I (xB i);rw[HOI]at sk;clear HA Y6 zj zk jS ZD oS Gq HCB HOI;obtain⟨rk,QG⟩:=gX (OP l (i+1) ⟨x0,1,t,c,x4,x5,x6⟩);have i5:=qq QG;rw[QG]at sk;have sl:=I (show OD sc.AH l (i+1)=OD sc.AH l i++(if u6 l rk=true then[⟨x0,VB l rk,decide (y0=16),So l y0 y2 rk,t⟩]else[])from by rw[sk,pf]);have HRL:=I (λ(k:tyN) (h:rk=some k)=>show k<n from by rw[<-HNL];exact pp (by rw[QG,h]));rw[eA]at HRE HR;have HRE:Hid (∀(W:tyW),Up w W->Calls Tryz.prog 36 #[BG b off n cp,O ((i:tyI)+1),.agg #[x0,O 1,O t,O c,x4,x5,x6]] W λe' w'=>e'=BA (O (rkI rk))/\Up W w'):=by rw[i5]at HRE;exact HRE
    have HJC:=I ADL;clear i5 QG sk HRP
    try clear Gq
    obtain⟨z0,z1,z2⟩:=Px W4 (AV _);go_upto_region 8 with fail
    go_cut[79]from 66 to 79 (λv wz=>v=false/\wz=W4)
    case first=>
     rcases HJC.out with rfl|rfl
     all_goals
      go_wp2
      go_meet;exact⟨rfl,rfl⟩
    case rest=>
     obtain⟨rfl,rfl⟩:=hcut;clear z0 z1 z2;go_wp2_with(refine Hl rfl 60 (.tmp 9) rfl q rfl 60 #[x0,O 1,O t,O c,x4,x5,x6] (0,0) _ AHS Tryz.underlying60 rfl Ay ?_)
     refine(HRE _ IM.w).mono ?_;rintro e w5 ⟨rfl,OK⟩;have Kr:=I OK;have AHU:=I (λ(W:tyW) (u:Up w5 W)=>Ks W (OK.trans u));have AHV:=I (λ(W:tyW) (u:Up w5 W)=>Px W (OK.trans u));have HRR:=I (HR.up (IM.w.trans OK));clear OK;obtain⟨d0,-,d2,-⟩:=AHU w5 (AV _);obtain⟨z0,-,z2⟩:=AHV w5 (AV _);obtain⟨ri,i5⟩:=gX (rkI rk);rw[i5]
     have nk:=I (show(rk=none/\ri<0)\/∃k,rk=some k/\(b<w5.heap.size/\0<=ri/\ri<n)/\∀W,Up w5 W->V W b (off+ri.toNat*7) (O (l.getD k En).at')/\V W b (off+ri.toNat*7+5) (O (l.getD k En).err)/\V W b (off+ri.toNat*7+6) (O (l.getD k En).YU)from by
      cases rk with
      |none=>subst i5;exact .inl ⟨rfl,AQ⟩
      |some k=>
       subst i5;have hkn:=HRL k rfl;obtain⟨b',off',e',hx⟩:=HRR k (by rw[HNL];exact hkn);cases e'
       have hx2:(rkI (some k)).toNat=k:=rfl;rw[hx2];obtain⟨e0,e1,e2,e3,e4,e5,e6⟩:=hx
       refine .inr ⟨k,rfl,⟨AJ e0,Int.natCast_nonneg k,by show(k:tyI)<n;omega⟩,λW u=>⟨(u.cell (AJ e0)).trans e0,(u.cell (AJ e0)).trans e5,(u.cell (AJ e0)).trans e6⟩⟩)
     have HY:=I (show(y0=15/\(y0==16)=false/\decide (y0=16)=false)\/(y0=16/\(y0==16)=true/\decide (y0=16)=true)from by rcases HJC.out with rfl|rfl<;>decide);have HYE:=I (show(y0==16)=decide (y0=16)from by rcases HY.out with h|h<;>rw[h.2.1,h.2.2]);go_upto_if 94 with fail;rw[HYE];obtain⟨yb,hyb⟩:=gX (decide (y0=16));have HYB:=I hyb;rw[hyb]at HY sl|-;have hb6:=Ah w5 (Y #[x0,O (-1),yb,(),O t] 81);have Kb:=(AV w5).alloc (Y #[x0,O (-1),yb,(),O t] 81);obtain⟨W6,PU⟩:=gX (w5.alloc (Y #[x0,O (-1),yb,(),O t] 81));obtain⟨ob,UR⟩:=gX w5.heap.size;rw[PU]at hb6 Kb|-;rw[UR]at hb6 nk|-;obtain⟨v0,hv0⟩:∃z:Int,(if y0=16 then y2 else 0)=z:=⟨_,rfl⟩;have sn:=I hv0;have g3:=cI hb6 3;have f3:=fI hb6 3;have z2:=(Kb.cell (AJ z2)).trans z2;have Je:=I (And.intro Kb (And.intro (show w5.heap.size<=ob by omega) hb6));clear hb6 Kb PU UR i5 hv0 hyb d0 d2 z0
     go_cut[] (λwz=>Hid (Up w5 wz/\BR wz ob #[x0,O (-1),yb,v0,O t] 81))
     case first=>
      rcases HY.out with⟨h1,-,h2⟩|⟨h1,-,h2⟩
      .have h0:v0=0:=by rw[<-sn,h1];rfl
       have HF:=I (show BR W6 ob #[x0,O (-1),yb,v0,O t] 81 from by rw[h0];exact Je.2.2);subst h2;clear h0 h1
       go_wp2
       go_meet;exact I ⟨Je.1,HF⟩
      .have h0:v0=y2:=by rw[<-sn,h1];rfl
       have HF:=I (show BR (W6.setCell (aD ob 3) y2) ob #[x0,O (-1),yb,v0,O t] 81 from by rw[h0];exact AT Je.2.2 3 _);subst h2;clear h0 h1
       go_wp2
       go_meet;exact I ⟨C5 (p:=aD ob 3) Je.1 Je.2.1 _,HF⟩
     case rest=>
      have M2:=hcut;clear hcut g3 f3 z2;go_upto_if 99 with fail
      go_cut[] (λwz=>Hid (Up w5 wz/\BR wz ob #[x0,O (VB l rk),yb,O (So l y0 y2 rk),O t] 81))
      case first=>
       rcases nk.out with⟨h1,h2⟩|⟨k,h1,⟨hbl,h2,h3⟩,hE⟩
       .have HF:=I (show BR wc ob #[x0,O (VB l rk),yb,O (So l y0 y2 rk),O t] 81 from by
         rw[show VB l rk= -1 from by rw[h1];rfl,show So l y0 y2 rk=v0 from by rw[<-sn,h1];rfl]
         exact M2.2)
        clear h1
        go_wp2
        go_meet;exact I ⟨M2.1,HF⟩
       .obtain⟨e0,e5,e6⟩:=hE wc M2.1;have g1:=cI M2.2 1;have g2:=cI M2.2 2;have g3:=cI M2.2 3;have f1:=fI M2.2 1;have f3:=fI M2.2 3;have HT:=I (show VB l rk=(l.getD k En).at' from by rw[h1];rfl);rcases HY.out with⟨h4,-,h5⟩|⟨h4,-,h5⟩
        .have yw:=I (show So l y0 y2 rk=(l.getD k En).YU from by rw[h1,h4];rfl);generalize(l.getD k En).at'=ka at*;generalize(l.getD k En).YU=kr at*
         have HF:=I (show BR ((wc.setCell (aD ob 1) ka).setCell (aD ob 3) kr) ob #[x0,O (VB l rk),yb,O (So l y0 y2 rk),O t] 81 from by
          rw[HT,yw];exact AT (AT M2.2 1 _) 3 _)
         subst h5;clear hE h1 h4
         go_wp2
         go_meet;exact I ⟨C5 (p:=aD ob 3) (C5 (p:=aD ob 1) M2.1 Je.2.1 _) Je.2.1 _,HF⟩
        .have yw:=I (show So l y0 y2 rk=v0 from by rw[<-sn,h1,h4];rfl);generalize(l.getD k En).at'=ka at*
         have HF:=I (show BR (wc.setCell (aD ob 1) ka) ob #[x0,O (VB l rk),yb,O (So l y0 y2 rk),O t] 81 from by
          rw[HT,yw];exact AT M2.2 1 _)
         subst h5;clear hE h1 h4
         go_wp2
         go_meet;exact I ⟨C5 (p:=aD ob 1) M2.1 Je.2.1 _,HF⟩
      case rest=>
       clear M2;have M2:=hcut;clear hcut;obtain⟨kp,hkp⟩:=gX (u6 l rk);have HKP:=I hkp;rw[hkp]at sl;clear hkp;go_upto_region 17 with fail
       go_cut[126] (λv wz=>v= .bool kp/\wz=wc)
       case first=>
        rcases nk.out with⟨h1,h2⟩|⟨k,h1,⟨hbl,h2,h3⟩,hE⟩
        .have HF:=I (show kp=true from by rw[<-HKP,h1];rfl);clear h1
         go_wp2
         go_meet;exact⟨by rw[HF],rfl⟩
        .obtain⟨-,e5,-⟩:=hE wc M2.1;have HF:=I (show kp=decide ((l.getD k En).err=0)from by rw[<-HKP,h1];rfl);generalize(l.getD k En).err=ke at*;clear h1 hE;have h4:¬ri<0:=J;by_cases he:ke=0
         .have Yr:=I (HF.trans (Fi he));clear HF;subst he
          go_wp2
          go_meet;exact⟨by rw[Yr],rfl⟩
         .have Yr:=I (HF.trans (DF he));have hef:(ke==0)=false:=by simpa using he
          clear HF he
          go_wp2
          go_meet;exact⟨by rw[Yr],rfl⟩
       case rest=>
        obtain⟨rfl,rfl⟩:=hcut;have um:=I (Kr.trans M2.1);have dy:=I (IM.go um);have HA9:Hid (OwnOps wc (w.heap.size+1) u7 (OD sc.AH l i)):=I (AS xG λk e=>um.block k (CX xG k e).2);cases kp with
        |true=>
         obtain⟨xs,hxs⟩:=gX (JA (OD sc.AH l i));obtain⟨xn,wG⟩:=gX ((OD sc.AH l i).length);have HXN:=I (show xn<=i from by rw[<-wG];exact AHT);have HX9:Hid (wc.ownsRow (w.heap.size+1) 81 5 u7 xn xs):=I (by have h:=HA9.out;unfold OwnOps at h;rw[hxs,wG]at h;exact h);have EK:=I (show w.heap.size+1<=wc.heap.size from by have:=dy.out.up.size;simpa using this);have ZC:=I M2.2;have HEX:=I (And.intro hxs wG);generalize VB l rk=tv at*;generalize So l y0 y2 rk=vv at*;clear hxs wG HA9
         go_wp2_with(first
          |(at_builtin;refine Ii (news:=[.int .i64 x0,.int .i64 tv,.bool yb,.int .i64 vv,.int .i64 t]) rfl (.tmp 127) (.tmp 129) 43 rfl (w.heap.size+1) i0 (.agg #[(),(),false,(),()]) 5 40 Tryz.underlying43 V8 HZ0 HZ1 HZ2 rfl AQ _ xn xs rfl HX9 rfl rfl (by simp[Value.oneCell']) AQ (by have:=HXN.out;have:=HJ.out;omega) EK ?_;intro v' w6 hown6 hg hbl)
          |(refine Hl rfl 81 (.tmp 12) rfl ob rfl 81 #[x0,tv,yb,vv,O t] (0,0) _ ZC Tryz.underlying81 rfl Ay ?_))
         have FA:Hid (G2 w w6 (FW sc a)):=I ⟨DL dy.up (Cw hbl)⟩
         have UQ:Hid (OwnOps w6 (w.heap.size+1) v' (OD sc.AH l (i+1))):=I (by
          rw[sl,AK rfl];unfold OwnOps;rw[Gx,Sg,HEX.1,HEX.2]
          exact hown6)
         clear hown6 hg hbl
         go_wp2
         go_roundw
         case rel=>refine⟨i+1,HJ.1,?_⟩;first|exact UQ|exact⟨UQ,FA⟩|exact⟨by first|rfl|go_num,UQ⟩|exact⟨by first|rfl|go_num,UQ,FA⟩
         case measure=>have:=HJ.out.1;simp[intOf];omega
        |false=>
         have UQ:Hid (OwnOps wc (w.heap.size+1) u7 (OD sc.AH l (i+1))):=I (by
          rw[sl,AI AQ,Jc]
          exact HA9)
         have FA:=dy
         go_wp2
         go_roundw
         case rel=>refine⟨i+1,HJ.1,?_⟩;first|exact UQ|exact⟨UQ,FA⟩|exact⟨by first|rfl|go_num,UQ⟩|exact⟨by first|rfl|go_num,UQ,FA⟩
         case measure=>have:=HJ.out.1;simp[intOf];omega
  .obtain rfl:i=n:=J;clear hlt;have HE:=I (And.intro HA HV.w)
   go_wp2
   go_ret;exact⟨⟨_,rfl,Da HE.1 (N9 _)⟩,HE.2⟩
def Um (w:tyW)(B:tyN)(v:tyV)(l:tyL):Prop:=w.ownsRow B 3 1 v l.length (Aj l)
theorem Ta{w:tyW}{B:tyN}{v:tyV}{l:tyL}(h:Um w B v l):∃A c,v=AR A l.length c/\Row w A l.length (Bl l)/\(A=none->c=0):=by
 unfold Um at h;rcases h.2 with⟨hv,hn⟩|⟨g,cap,cur,hv,hg,hh,hr⟩
 .exact⟨none,0,by rw[hv,hn],λk hk=>J,λ_=>rfl⟩
 .refine⟨_,cap,hv,λk hk=>⟨g,0,rfl,?_⟩,λe=>by cases e⟩;rw[hv]at h;rw[Dw];exact(h.cellAt k J).trans (Er hk)
theorem Wy(out:tyL):(List.range out.length).map (Bl out)=Aj out:=by
 unfold Aj;apply mM
 .simp
 .intro i h1 h2;simp at h1;rw[dC,qh,dC];unfold Bl;rw[gD,gG h1];rfl
theorem Qm(L:List C6)(r:C6):∀n,(Nm L r n).length<=n
 |0=>A9 _
 |n+1=>by
  unfold Nm;have:=Qm L r n;rw[Gx];split<;>simp<;>omega
theorem mZ(l:List C6)(A:tyA)(c:tyN)(first:tyI)(ri:tyN)(w:tyW)(hL:l.length<=64)(i5:ri<l.length)(hr:Gh w A l):
  Calls Tryz.prog 37 #[AR A l.length c,first,ri] w λe w'=> ∃v,e=BA v/\Um w' w.heap.size v (Nj l first (l.getD ri Ax) l.length::Nm l (l.getD ri Ax) l.length)/\Up w w':=by
 obtain⟨i0,hi,hz0,hz1,hz2⟩:=aU tO;have HI:=I hi;have HZ0:=I hz0;have HZ1:=I hz1;have HZ2:=I hz2;have HR:=I hr;have hl2:(l.length:tyI)<=64:=J;have HRI:=I i5;have hr0:(0:tyI)<=ri:=J;have hr1:(ri:tyI)<l.length:=J;obtain⟨ro,hro⟩:=gX (l.getD ri Ax);have yZ:=I hro;rw[hro];have HVS:=I (λn=>show Nj l first ro (n+1)=if((l.getD n Ax).wr&&Bt (l.getD n Ax) ro)=true then(l.getD n Ax).val else Nj l first ro n from rfl);have HMS:=I (λn=>show Nm l ro (n+1)=Nm l ro n++if((l.getD n Ax).wr&& !Bt (l.getD n Ax) ro&& !Bt ro (l.getD n Ax))=true then[(l.getD n Ax).val]else[]from rfl);have HML:=I (Qm l ro);have sn:Hid (Nj l first ro 0=first):=I rfl;have HM0:Hid (∀W,Um W w.heap.size sN (Nm l ro 0)):=I λW=>C3 _ _ _ _
 clear hi hz0 hz1 hz2 hr hL i5 hro;generalize Nj l first ro=SV at*
 generalize Nm l ro=SM at*;go_enter Tryz.func37,Tryz.ntmps37;go_wp2_with fail
 go_loopw[7,8,9] (λx u y wr=> ∃k:Nat,k<=l.length/\y=O k/\x=O (SV k)/\Hid (Um wr w.heap.size u (SM k))/\Hid (Up w wr)) (λ_ _ y _=>l.length-(intOf y).toNat)
 case atStart=>exact⟨0,J,rfl,by rw[sn],I (HM0 _),I (AV _)⟩
 case round=>
  obtain⟨k,hk,rfl,rfl,HO,HV⟩:=hrel;by_cases hlk:k<l.length
  .have hki:(k:tyI)<l.length:=J;have hk0:(0:tyI)<=k:=J;have HK:=I hlk;have HS:=I (HVS k);have HT:=I (HMS k);obtain⟨bi,Cn,eA,S8,i1,i2,i3,i4⟩:=HR.up HV ri HRI;obtain⟨bk,sU,eB,k0,k1,k2,k3,k4⟩:=HR.up HV k hlk;subst eA;cases eB
   rw[yZ]at S8 i1 i2 i3 i4;have HA1:=I (λW=>KE (l.getD k Ax) ro W);have HA2:=I (λW=>KE ro (l.getD k Ax) W);generalize Bt (l.getD k Ax) ro=a1 at*;generalize Bt ro (l.getD k Ax)=a2 at*;generalize l.getD k Ax=q at*;clear yZ HR;obtain⟨PF,PT,PW,PV,PH⟩:=ro;obtain⟨QF,QT,QW,QV,QH⟩:=q;unfold gM at HA1 HA2;dsimp only at HS HT HA1 HA2 S8 i1 i2 i3 i4 k0 k1 k2 k3 k4;have HUR:=I (λW (u:Up wr W)=>Nh HO u);cases QW
   .have HS2:Hid (SV (k+1)=SV k):=I (by rw[HS];simp);have HT2:Hid (SM (k+1)=SM k):=I (by rw[HT];simp);clear HA1 HA2 HS HT S8 i1 i2 i3 i4 k0 k1 k3 k4
    go_wp2
    go_roundw
    case rel=>exact⟨k+1,J,by go_num,by rw[HS2],by rw[HT2];exact HO,HV⟩
    case measure=>simp[intOf];omega
   .have KP:Hid (∀w',Up wr w'->Up wr w'/\V w' bi (Cn+ri*5) PF/\V w' bi (Cn+ri*5+1) PT/\V w' bi (Cn+ri*5+2) PW/\V w' bi (Cn+ri*5+3) PV/\V w' bi (Cn+ri*5+4) PH/\V w' bi (Cn+k*5) QF/\V w' bi (Cn+k*5+1) QT/\V w' bi (Cn+k*5+2) true/\V w' bi (Cn+k*5+3) QV/\V w' bi (Cn+k*5+4) QH):=I (λw' u=>⟨u,(u.cell (AJ S8)).trans S8,(u.cell (AJ i1)).trans i1,(u.cell (AJ i2)).trans i2,(u.cell (AJ i3)).trans i3,(u.cell (AJ i4)).trans i4,(u.cell (AJ k0)).trans k0,(u.cell (AJ k1)).trans k1,(u.cell (AJ k2)).trans k2,(u.cell (AJ k3)).trans k3,(u.cell (AJ k4)).trans k4⟩);have HX1:=I (λW (u:Up wr W)=>(HA1 W).mono λe w' (h:_/\_)=>show _/\Up wr w' from⟨h.1,u.trans h.2⟩);have HX2:=I (λW (u:Up wr W)=>(HA2 W).mono λe w' (h:_/\_)=>show _/\Up wr w' from⟨h.1,u.trans h.2⟩);clear HA1 HA2 S8 i1 i2 i3 i4 k0 k1 k3 k4;go_wp2_with fail
    go_region_held3 (λw'=>Up wr w'/\V w' bi (Cn+ri*5) PF/\V w' bi (Cn+ri*5+1) PT/\V w' bi (Cn+ri*5+2) PW/\V w' bi (Cn+ri*5+3) PV/\V w' bi (Cn+ri*5+4) PH/\V w' bi (Cn+k*5) QF/\V w' bi (Cn+k*5+1) QT/\V w' bi (Cn+k*5+2) true/\V w' bi (Cn+k*5+3) QV/\V w' bi (Cn+k*5+4) QH)
     (first|exact KP.out _ (by assumption)|exact KP.out _ (AV _).drew)
     (first|(go_at_call 38;refine(HX1 _ (Wl (by assumption))).mono ?_;rintro e w' ⟨rfl,hb⟩))
    all_goals
     obtain⟨hu,S8,i1,i2,i3,i4,k0,k1,k2',k3,k4⟩:=KP.out _ hb;clear k2;cases a1
     .have HS2:Hid (SV (k+1)=SV k):=I (by rw[HS];simp);clear S8 i1 i2 i3 i4 k0 k1 k2' k3 k4 hu HS;have hb2:=hb;go_wp2_with fail
      go_region_held3 (λw'=>Up wr w'/\V w' bi (Cn+ri*5) PF/\V w' bi (Cn+ri*5+1) PT/\V w' bi (Cn+ri*5+2) PW/\V w' bi (Cn+ri*5+3) PV/\V w' bi (Cn+ri*5+4) PH/\V w' bi (Cn+k*5) QF/\V w' bi (Cn+k*5+1) QT/\V w' bi (Cn+k*5+2) true/\V w' bi (Cn+k*5+3) QV/\V w' bi (Cn+k*5+4) QH)
       (first|exact KP.out _ (by assumption)|exact KP.out _ hb2.drew)
       (first|(go_at_call 38;refine(HX2 _ (Wl (by assumption))).mono ?_;rintro e w' ⟨rfl,hb⟩))
      all_goals
       obtain⟨hu,S8,i1,i2,i3,i4,k0,k1,k2',k3,k4⟩:=KP.out _ hb;have HB:=I hb;cases a2
       .have HT2:Hid (SM (k+1)=SM k++[QV]):=I (by rw[HT];simp);have Jd:=I (HUR _ hb);have ox:Hid (((SM k).length+1)*8<=140737488355328):=I (by have:=HML.out k;omega);have o6:=I (HV.trans hb).size;go_wp2_with(at_builtin;refine Ii (news:=[.int .i64 QV]) rfl (.tmp 47) (.tmp 53) 25 rfl w.heap.size i0 () 1 8 Tryz.underlying25 HI HZ0 HZ1 HZ2 rfl AQ _ (SM k).length (Aj (SM k)) rfl Jd rfl rfl (by simp[Value.oneCell']) AQ ox o6 ?_;intro v' w6 hown6 hg hbl)
        have OJ:Hid (Um w6 w.heap.size v' (SM (k+1))):=I (by
         rw[HT2];unfold Um Aj;rw[Gx,Gu]
         exact hown6)
        have ME:=I (show Up w w6 from DL (HV.trans HB) hbl);clear hown6 hg hbl
        go_wp2
        go_roundw
        case rel=>exact⟨k+1,J,by go_num,by rw[HS2],OJ,ME⟩
        case measure=>simp[intOf];omega
       .have HT2:Hid (SM (k+1)=SM k):=I (by rw[HT];simp)
        go_wp2
        go_roundw
        case rel=>exact⟨k+1,J,by go_num,by rw[HS2],by rw[HT2];exact I (HUR _ HB),I (HV.trans HB)⟩
        case measure=>simp[intOf];omega
     .have HS2:Hid (SV (k+1)=QV):=I (by rw[HS];simp);have HT2:Hid (SM (k+1)=SM k):=I (by rw[HT];simp);have HB:=I hb
      go_wp2
      go_roundw
      case rel=>exact⟨k+1,J,by go_num,by rw[HS2],by rw[HT2];exact I (HUR _ HB),I (HV.trans HB)⟩
      case measure=>simp[intOf];omega
  .obtain rfl:k=l.length:=J;clear hlk;obtain⟨MA,mc,rfl,hMR,hM0⟩:=Ta HO;have HMR:=I hMR;have wO:=I hM0;have HLM:=I (HML l.length);have HWZ:=I HV.size;have IK:=I (λx=>(AV wr).alloc (Y #[x] 3));clear hMR hM0 HO;go_wp2_with(at_builtin;refine JX rfl (.tmp 56) (.tmp 57) 25 rfl w.heap.size 3 i0 () 8 Tryz.underlying25 HI HZ0 HZ1 HZ2 rfl _ 1 [O (SV l.length)] rfl (Da (cG wr [O (SV l.length)] 3 1 rfl) HWZ) MA (SM l.length).length mc (Bl (SM l.length)) rfl wO (HMR.up (IK _)) (λu hu=>by rw[Cd]at hu;obtain⟨_,_,rfl⟩:=hu;rfl) AQ (by have:=HLM.out;omega) (by have:=HWZ.out;simp;omega) ?_;intro v6 w6 hown6 hg hbl)
   have OJ:Hid (Um w6 w.heap.size v6 (SV l.length::SM l.length)):=I (by
    unfold Um;rw[Qy,Nat.add_comm];rw[Wy]at hown6
    exact hown6)
   have ME:=I (show Up w w6 from DL (HV.trans (IK _)) hbl);clear hown6 hg hbl
   go_wp2
   go_ret;exact⟨_,rfl,OJ,ME⟩
def WZ (S:tyL)(v:tyI)(k:tyN):Bool:=(S.take k).any λx=>x==v
theorem iW(S:tyL)(v:tyI){k:tyN}(h:k<S.length):WZ S v (k+1)=(WZ S v k||(S.getD k 0==v)):=by
 unfold WZ;rw[vE,gG h,pI,List.any_append,gD,gG h];simp
theorem ly{S:tyL}{v:tyI}(h:v∈S):WZ S v S.length=true:=by
 unfold WZ;rw[IR,List.any_eq_true];exact⟨v,h,Az⟩
theorem Sq(l:List C6)(A:tyA)(c:tyN)(first:tyI)(w:tyW)(hL:l.length<=64)(hr:Gh w A l)(hg:mA l first):
  Calls Tryz.prog 15 #[AR A l.length c,first] w λe w'=>e=BA true/\Up w w':=by
 have HR:=I hr;have HG:=I hg;have hl2:(l.length:tyI)<=64:=J;have HSE:=I (λi W (h:i<l.length) (u:Up w W)=>mZ l A c first i W hL h (hr.up u));clear hr hg hL;go_enter Tryz.func15,Tryz.ntmps15;go_wp2_with fail
 go_loopw[5] (λx wr=> ∃i:Nat,i<=l.length/\x=O i/\Hid (Up w wr)) (λx _=>l.length-(intOf x).toNat)
 case atStart=>exact⟨0,J,rfl,I (AV _)⟩
 case round=>
  obtain⟨i,hi,rfl,HV⟩:=hrel;by_cases hlt:i<l.length
  .have hii:(i:tyI)<l.length:=J;have hi0:(0:tyI)<=i:=J;have HGI:=I (HG i hlt);have HS:=I (λW (u:Up wr W)=>HSE i W hlt (HV.trans u));have uT:=I (show(Nj l first (l.getD i Ax) l.length::Nm l (l.getD i Ax) l.length).length<=l.length+1 from by rw[Qy];have:=Qm l (l.getD i Ax) l.length;omega);obtain⟨b,off,eA,S8,i1,i2,i3,i4⟩:=HR.up HV i hlt;have ul:=I (λ(m:tyN)=>HV.trans ((AV wr).drewN m));have HI1:=I hlt;have jQ:=I (λ(h1:(l.getD i Ax).wr=false) (h2:(l.getD i Ax).to≠ -1)=>show(l.getD i Ax).val∈Nj l first (l.getD i Ax) l.length::Nm l (l.getD i Ax) l.length from(HGI h1 h2).elim (λq=>by rw[q];exact .head _) λq=> .tail _ q);clear HGI HSE HG;generalize Nj l first (l.getD i Ax) l.length::Nm l (l.getD i Ax) l.length=S at*
   generalize l.getD i Ax=q at*;obtain⟨QF,QT,QW,QV,QH⟩:=q;dsimp only at S8 i1 i2 i3 i4 jQ;subst eA;cases QW
   .by_cases jb:QT= -1
    .subst jb
     go_wp2
     go_roundw
     case rel=>exact⟨i+1,by have:=HI1.out;omega,by go_num,HV⟩
     case measure=>have:=HI1.out;simp[intOf];omega
    .have UV:(QT== -1)=false:=Dy.2 jb;have HM:=I (ly (jQ rfl jb));have HK:=I (λW (u:Up wr W)=>show V W b (off+i*5+3) QV from(u.cell (AJ i3)).trans i3);clear jb jQ;have Cm:=I (AV wr);go_wp2_with fail;clear S8 i1 i2 i3 i4;refine(HS wr Cm).mono ?_;rintro _ w3 ⟨v,rfl,ho,hu3⟩;obtain⟨SA,sc,rfl,hrow,_⟩:=Ta ho;have HRW:=I hrow;have Hg:=I (Cm.trans hu3);clear ho hrow hu3;have hsl:(S.length:tyI)<=65:=by have:=uT.out;omega
     go_wp2_with fail
     go_loopw[7,8] (λm y wq=> ∃k:Nat,k<=S.length/\y=O k/\m= .bool (WZ S QV k)/\Hid (Up w3 wq)) (λ_ y _=>S.length-(intOf y).toNat)
     case atStart=>exact⟨0,J,rfl,rfl,I (AV _)⟩
     case round=>
      obtain⟨k,hk,rfl,rfl,P1⟩:=hrel;by_cases hlk:k<S.length
      .have hki:(k:tyI)<S.length:=J;have hk0:(0:tyI)<=k:=J;have jL:=I hlk;have HN:=I (iW S QV hlk);obtain⟨sb,soff,eS,hs0⟩:=(HRW.up P1) k hlk;subst eS;unfold Bl at hs0;have i3:=HK _ (Hg.trans P1);have ya:=I (λ(m:tyN)=>P1.trans ((AV wr).drewN m));generalize hm2:WZ S QV (k+1)=m2 at*;generalize WZ S QV k=m at*;generalize S.getD k 0=x at*;clear P1;cases m
       .by_cases hx:x=QV
        .subst hx;have HE:Hid (m2=true):=I (by rw[HN];simp);go_wp2_with fail;go_quiet(fail);rename_i nq
         go_wp2
         go_roundw
         case rel=>exact⟨k+1,by have:=jL.out;omega,by go_num,by rw[hm2,HE],I (ya nq)⟩
         case measure=>have:=jL.out;simp[intOf];omega
        .have hxb:(x==QV)=false:=Dy.2 hx;have HE:Hid (m2=false):=I (by rw[HN,hxb];rfl);go_wp2_with fail;go_quiet(fail);rename_i nq
         go_wp2
         go_roundw
         case rel=>exact⟨k+1,by have:=jL.out;omega,by go_num,by rw[hm2,HE],I (ya nq)⟩
         case measure=>have:=jL.out;simp[intOf];omega
       .have HE:Hid (m2=true):=I (by rw[HN];rfl);go_wp2_with fail;go_quiet(fail);rename_i nq
        go_wp2
        go_roundw
        case rel=>exact⟨k+1,by have:=jL.out;omega,by go_num,by rw[hm2,HE],I (ya nq)⟩
        case measure=>have:=jL.out;simp[intOf];omega
      .obtain rfl:k=S.length:=J;have Yv:=I (HV.trans (Hg.trans P1));clear hlk P1;rw[HM]
       go_wp2
       go_roundw
       case rel=>exact⟨i+1,by have:=HI1.out;omega,by go_num,Yv⟩
       case measure=>have:=HI1.out;simp[intOf];omega
   .go_wp2
    go_roundw
    case rel=>exact⟨i+1,by have:=HI1.out;omega,by go_num,HV⟩
    case measure=>have:=HI1.out;simp[intOf];omega
  .obtain rfl:i=l.length:=J;clear hlt
   go_wp2
   go_ret;exact⟨rfl,HV⟩
theorem fl(A0 A1 A2 A3:tyA)(n0 n1 n2 n3 c0 c1 c2 c3 j:tyN)(x:tyI):(#[AR A0 n0 c0,AR A1 n1 c1,AR A2 n2 c2,AR A3 n3 c3]:Array Value)[j]?≠some (Value.int .i64 x):=λh=>by
 have hm:=fd h;simp at hm
theorem qE{w w4:tyW}{a:V4}{sb kc:tyN}{K A0 A1 A2 A3:tyA}{n0 n1 n2 n3 c0 c1 c2 c3:tyN}{pl:List BL}(hs:EF w sc a)(u:Up w w4)(hsb:w.heap.size<=sb)(hp:Fg w4 K pl)(hb:BR w4 sb #[AR A0 n0 c0,AR A1 n1 c1,AR A2 n2 c2,AR A3 n3 c3] 27)(v:tyV):
  EF (w4.setCell (aD sb 2) v) {sc with picks:=pl} {a with KA:=K,kc:=kc}:=by
 have hk:∀k,k≠sb->hSM (w4.setCell (aD sb 2) v) w4 k:=λk h=>BF w4 ⟨sb,2,none⟩ v k h
 have hu:Up w (w4.setCell (aD sb 2) v):=C5 (p:=aD sb 2) u hsb v;have h:=hs.up hu;refine⟨h.th,h.pr,λi hi=>?_,h.dr,h.dn⟩;obtain⟨b,off,e,h0,h1,h2⟩:=hp i hi
 have hne:b≠sb:=λe2=>by
  rw[e2,AL hb]at h0;exact fl _ _ _ _ _ _ _ _ _ _ _ _ _ _ h0
 exact⟨b,off,e,(CI (hk b hne)).trans h0,(CI (hk b hne)).trans h1,(CI (hk b hne)).trans h2⟩
section
variable {x:Fz}{a:V4}
theorem pD(W:tyW)(hs:EF W (B9 x) a):Calls Tryz.prog 9 #[.agg #[AR a.TA 1 a.tc,AR a.PA (Oa x) a.pc,AR a.KA (FI (Oa x) x.picks).length a.kc,AR a.DA (Eu x).length a.dc]] W λe w'=>
  ∃A0 c0 nw A2 n2 c2 A3 n3 c3 A4 n4 c4,e=BA (.tuple #[.agg #[AR A0 (Fk (IP x) (B9 x)).length c0,O nw,AR A2 n2 c2,AR A3 n3 c3,AR A4 n4 c4],()])/\NZ w' A0 (Fk (IP x) (B9 x))/\Up W w'/\(Fk (IP x) (B9 x)).length<=100000000:=by
 have hS:=Ok x;have h:=vi hS W hs;rw[show(B9 x).AH.length=Oa x from hS.len]at h;refine Calls.mono (show Calls Tryz.prog 9 _ W _ from h) ?_;rintro e w' ⟨A0,c0,A2,n2,c2,A3,n3,c3,A4,n4,c4,q,rfl,hrow,hq,hu,hl⟩;obtain⟨A,c,e2,hat⟩:=CU.at' hrow;cases e2
 exact⟨_,_,_,_,_,_,_,_,_,_,_,_,rfl,hat,hu,hl⟩
theorem vh(W:tyW)(hs:EF W (B9 x) a)(A:tyA)(cp:tyN)(hl:(Fk (IP x) (B9 x)).length<=100000000)(hat:NZ W A (Fk (IP x) (B9 x))):
  Calls Tryz.prog 13 #[.agg #[AR a.TA 1 a.tc,AR a.PA (Oa x) a.pc,AR a.KA (FI (Oa x) x.picks).length a.kc,AR a.DA (Eu x).length a.dc],AR A (Fk (IP x) (B9 x)).length cp,()] W λe w'=> ∃A' c',e=BA (AR A' (Jo (IP x) (B9 x)).length c')/\Gh w' A' (Jo (IP x) (B9 x))/\Up W w':=by
 have hS:=Ok x;have hL:=(b8 hS (Ru x)).1;have hn:=aB x
 have h:=lw (sc:=B9 x) (Fk (IP x) (B9 x)) A cp W hs hl hat (λi hi=>hL _ (RC _ hi _)) (by rw[show(B9 x).AH.length=Oa x from hS.len];omega) (λt c hc=>by
  obtain⟨h1,h2⟩:=hS.ops t c hc
  exact⟨h1.imp id λh=>h.1,h2⟩)
 rw[show(B9 x).AH.length=Oa x from hS.len]at h;refine Calls.mono (show Calls Tryz.prog 13 _ W _ from h) ?_;rintro e w' ⟨⟨v,rfl,ho⟩,hu⟩;obtain⟨A',cc,rfl,hr⟩:=vF.row ho;exact⟨A',cc,rfl,hr,hu⟩
end
theorem Z4(kind nn:tyN)(acts:List (List Int))(picks:List BL)(draws:tyL)(AA KA S9:tyA)(ac kc V1:tyN)(w:tyW)(h8:kind<256/\nn<256)(ha:Mh w AA acts)(hk:Fg w KA picks)(hd:Row w S9 draws.length (Bl draws)):
  Calls Tryz.prog 4 #[.agg #[.int .u8 kind,.int .u8 nn,AR AA acts.length ac,AR KA picks.length kc,AR S9 draws.length V1]] w λe w'=>e=BA true/\Up w w':=by
 obtain⟨x,hx⟩:∃x:Fz,(⟨kind,nn,acts,picks,draws⟩:Fz)=x:=⟨_,rfl⟩;have hxp:x.picks=picks:=by rw[<-hx]
 have Sa:=I (λ(W:tyW) (u:Up w W)=>show Calls Tryz.prog 11 #[.agg #[.int .u8 kind,.int .u8 nn,AR AA acts.length ac,AR KA picks.length kc,AR S9 draws.length V1]] W _ from YH ⟨kind,nn,acts,picks,draws⟩ AA KA S9 ac picks.length kc V1 W h8 (hd.up u) (ha.up u));rw[hx]at Sa;have SK:=I (λ(W:tyW) (u:Up w W)=>iG picks KA kc (Oa x) W (by have:=aB x;omega) (hk.up u));have TB:=I (λ(W:tyW) (a:V4) (hs:EF W (B9 x) a)=>pD W hs);have di:=I (λ(W:tyW) (a:V4) (hs:EF W (B9 x) a) (A:tyA) (cp:tyN) (hl:(Fk (IP x) (B9 x)).length<=100000000) (hat:NZ W A (Fk (IP x) (B9 x)))=>vh W hs A cp hl hat);have yd:=I (b8 (Ok x) (Ru x)).2;have Sc:=I (show(B9 x).things=[(IP x).th]from rfl);have sj:=I (show({TC x with picks:=FI (Oa x) picks}:MN)=B9 x from by unfold B9;rw[hxp]);have M6:=I (bB x);rw[hxp]at TB di;obtain⟨pn,hpn⟩:=gX (Oa x);obtain⟨an,yW⟩:=gX acts.length;obtain⟨kn,hkn⟩:=gX picks.length;obtain⟨dn,hdn⟩:=gX draws.length;rw[yW,hkn,hdn];rw[yW,hkn,hdn]at Sa;rw[hkn]at SK;rw[hpn]at Sa SK TB di sj;obtain⟨pl,hpl⟩:=gX (FI pn picks);rw[hpl]at SK TB di sj;obtain⟨kl,hkl⟩:=gX pl.length;rw[hkl]at SK TB di;obtain⟨dl,hdl⟩:=gX ((Eu x).length);rw[hdl]at Sa TB di;have hkq:(IP x).k=V5 x:=rfl;have AHl:=I (show(IP x).th.arg=V5 x from rfl);rw[hkq]at yd;generalize V5 x=k at*;generalize TC x=SC0 at*;generalize B9 x=SC at*;generalize Fk (IP x) SC=EVS at*;generalize Jo (IP x) SC=OL at*;generalize(IP x).th=TH at*;obtain⟨en,hen⟩:=gX EVS.length;rw[hen]at TB di;obtain⟨on,hon⟩:=gX OL.length;have HG:=I yd.out.2.1;have dZ:=I hon;rw[hon]at di;have hb1:=Ah w (Y #[.int .u8 kind,.int .u8 nn,AR AA an ac,AR KA kn kc,AR S9 dn V1] 40);have hu1:=(AV w).alloc (Y #[.int .u8 kind,.int .u8 nn,AR AA an ac,AR KA kn kc,AR S9 dn V1] 40);obtain⟨W1,hW1⟩:=gX (w.alloc (Y #[.int .u8 kind,.int .u8 nn,AR AA an ac,AR KA kn kc,AR S9 dn V1] 40));rw[hW1]at hb1 hu1;have GR:=I hu1;have HX:=I (λ(W:tyW) (u:Up W1 W)=>show BR W w #[.int .u8 kind,.int .u8 nn,AR AA an ac,AR KA kn kc,AR S9 dn V1] 40 from(u.block _ (gE hb1).1).trans hb1);have HW1:=I hW1;have pC:=I (λW=>gP W);clear hb1 hu1 hW1 hk hd ha h8 hkn hdn hpn hpl hkl hdl yW hen hon hxp hx hkq;go_enter Tryz.func4,Tryz.ntmps4;go_upto_region 1 with fail;rw[HW1.out];clear HW1;have hx:=HX.out _ (AV _);have c0:=cI hx 0;have c1:=cI hx 1;have c2:=cI hx 2;have c3:=cI hx 3;have c4:=cI hx 4;clear hx;go_wp2_with fail;refine(Sa.out _ GR.out).mono ?_;rintro e w2 ⟨a,rfl,hsc,hu2⟩;clear c0 c1 c2 c3 c4;have hb3:=Ah w2 (Y #[AR a.TA 1 a.tc,AR a.PA pn a.pc,sN,AR a.DA dl a.dc] 27);have hu3:=(AV w2).alloc (Y #[AR a.TA 1 a.tc,AR a.PA pn a.pc,sN,AR a.DA dl a.dc] 27);obtain⟨W3,hW3⟩:=gX (w2.alloc (Y #[AR a.TA 1 a.tc,AR a.PA pn a.pc,sN,AR a.DA dl a.dc] 27));obtain⟨sb,hsb⟩:=gX w2.heap.size;rw[hW3]at hb3 hu3;rw[hsb]at hb3;have HW3:=I hW3;have zK:=I hsb;have HB3:=I (λ(W:tyW) (u:Up W3 W)=>show BR W sb #[AR a.TA 1 a.tc,AR a.PA pn a.pc,sN,AR a.DA dl a.dc] 27 from(u.block _ (gE hb3).1).trans hb3);have ADR:=I hsc;have Cm:=I hu2;have Hg:=I hu3;have hx:=HX.out _ (hu2.trans hu3);have c3:=cI hx 3;have s1:=cI hb3 1;clear hx hb3 hu3 hu2 hsc hW3 hsb;have Vl:=I c3;have Pw:=I s1;clear c3 s1;go_upto_region 2 with fail;rw[HW3.out,zK.out];have c3:=Vl.out;have s1:=Pw.out;go_wp2_with fail;refine(SK.out _ (GR.out.trans (Cm.out.trans Hg.out))).mono ?_;rintro e w4 ⟨KA',c',rfl,hpk,ML⟩;clear c3 s1;have hb4:=HB3.out _ ML;have uP:=I (qE (kc:=c') ADR.out (Hg.out.trans ML) (Jq zK.out) hpk hb4 (AR KA' kl c'));have FA:=I (AT hb4 2 (AR KA' kl c'));have Kr:=I (show Up w (w4.setCell (aD sb 2) (AR KA' kl c'))from C5 (p:=aD sb 2) (GR.out.trans (Cm.out.trans (Hg.out.trans ML))) (by have:=GR.out.size;have:=Cm.out.size;have:=zK.out;show w.heap.size<=sb;omega) _);have y2:=cI hb4 2;have f2:=fI hb4 2;clear hb4 hpk ML;go_upto_region 3 with fail;clear y2 f2;generalize yN:w4.setCell (aD sb 2) (AR KA' kl c')=W5 at uP FA Kr|-;clear yN;rw[sj.out]at uP;simp only[DH,DG,DI]at FA
 have MC:=I (λ(W:tyW) (u:Up W5 W)=>show(V W sb 0 (AR a.TA 1 a.tc)/\V W sb 1 (AR a.PA pn a.pc))/\V W sb 2 (AR KA' kl c')/\V W sb 3 (AR a.DA dl a.dc)from by
  have h:=(u.block _ (gE FA.out).1).trans FA.out
  exact⟨⟨AL h 0,AL h 1⟩,AL h 2,AL h 3⟩)
 clear FA HB3 HX Sa SK ADR Cm Hg HW3 zK Vl Pw sj;obtain⟨⟨s0,s1⟩,s2,s3⟩:=MC.out _ (AV _);go_wp2_with fail;refine(TB.out _ _ uP.out).mono ?_;rintro e w6 ⟨A0,c0,nw,A2,n2,c2,A3,n3,c3,A4,n4,c4,rfl,hat,Kb,hel⟩;clear s0 s1 s2 s3;have dY:=Ah w6 (Y #[AR A0 en c0,nw,AR A2 n2 c2,AR A3 n3 c3,AR A4 n4 c4] 32);have Qd:=(AV w6).alloc (Y #[AR A0 en c0,nw,AR A2 n2 c2,AR A3 n3 c3,AR A4 n4 c4] 32);obtain⟨W7,SO⟩:=gX (w6.alloc (Y #[AR A0 en c0,nw,AR A2 n2 c2,AR A3 n3 c3,AR A4 n4 c4] 32));obtain⟨rb,hrb⟩:=gX w6.heap.size;rw[SO]at dY Qd;rw[hrb]at dY;have HR7:=I (show V W7 rb 0 (AR A0 en c0)from AL dY 0);have HAT:=I (hat.up Qd);have o9:=I (uP.out.up (Kb.trans Qd));have Yo:=I (λ(W:tyW) (u:Up W7 W)=>MC.out W (Kb.trans (Qd.trans u)));have o8:=I (Kr.out.trans (Kb.trans Qd));have HEL:=I hel;have HW7:=I SO;have ZI:=I hrb;have hth:=o9.out.th;rw[Sc.out]at hth;obtain⟨tb,tof,htA,-,ht4,-⟩:=hth 0 (I7 0);rw[RR,LB]at ht4;have HT4:=I (show V W7 tb (tof+4) k from by rw[<-AHl.out];exact ht4);have ja:=I htA;clear dY Qd SO hrb hat Kb hel TB uP MC Kr htA ht4 hth;go_upto_region 6 with fail;rw[HW7.out,ZI.out];clear HW7 ZI;obtain⟨⟨s0,s1⟩,s2,s3⟩:=Yo.out _ (AV _);have r0:=HR7.out;go_wp2_with fail;refine(di.out _ _ o9.out A0 c0 HEL.out HAT.out).mono ?_;rintro e w8 ⟨A',c8,rfl,hrow,Vs⟩;have HU8:=I Vs;have yZ:=I (λ(W:tyW) (u:Up w8 W)=>hrow.up u);have yR:=I ((Vs.cell (AJ HT4.out)).trans HT4.out);clear s0 s1 s2 s3 r0 Vs hrow;obtain⟨⟨s0,-⟩,-⟩:=Yo.out _ HU8.out;rw[ja.out]at s0;have t4:=yR.out;have KI:=I (o8.out.trans HU8.out);have zM:=I (show OL.length<=18 from HG.out.1);rcases Int.lt_or_le k 4 with hk4|hk4
 .have HBAD:=I (λ(W:tyW) (u:Up w8 W)=>by
   have h:=fG OL A' c8 W (by have:=zM.out;omega) (yZ.out W u) yd.out.1 (yd.out.2.2.1 hk4).2;rw[dZ.out]at h
   exact h)
  have yg:=I (λ(W:tyW) (u:Up w8 W)=>by
   have h:=Sq OL A' c8 0 W (by have:=zM.out;omega) (yZ.out W u) (yd.out.2.2.1 hk4).1;rw[dZ.out]at h
   exact h)
  go_wp2_with fail;refine(HBAD.out _ (AV _)).mono ?_;rintro e w9 ⟨rfl,hu9⟩;have um:=I hu9;clear hu9;go_wp2_with fail;refine(yg.out _ um.out).mono ?_;rintro e w10 ⟨rfl,Vt⟩;have IK:=I (um.out.trans Vt);clear Vt;go_wp2_with fail;refine(pC.out _).mono ?_;rintro e w11 ⟨rfl,Yx⟩;have bE:=I (KI.out.trans (IK.out.trans Yx));clear Yx
  go_wp2
  go_ret;exact⟨rfl,bE.out⟩
 .have hk5:¬k<4:=J
  have HBAD:=I (λ(W:tyW) (u:Up w8 W)=>by
   have h:=T0 OL A' c8 W (by have:=zM.out;omega) (yZ.out W u);rw[dZ.out,yd.out.1]at h
   exact h)
  have yg:=I (λ(W:tyW) (u:Up w8 W)=>show Calls Tryz.prog 17 #[AR A' on c8,()] W λe w'=>e=BA true/\Up W w' from by
   have h:=a8 OL A' c8 0 W HG.out AQ (yZ.out W u);rw[dZ.out]at h;refine h.mono ?_;rintro e w' ⟨ok,rfl,h1,h2⟩
   exact⟨by rw[h1.2 (yd.out.2.2.2 hk4)],h2⟩)
  go_wp2_with fail;refine(HBAD.out _ (AV _)).mono ?_;rintro e w9 ⟨rfl,hu9⟩;have um:=I hu9;clear hu9;go_wp2_with fail;refine(yg.out _ um.out).mono ?_;rintro e w10 ⟨rfl,Vt⟩;have IK:=I (um.out.trans Vt);clear Vt;go_wp2_with fail;refine(pC.out _).mono ?_;rintro e w11 ⟨rfl,Yx⟩;have bE:=I (KI.out.trans (IK.out.trans Yx));clear Yx
  go_wp2
  go_ret;exact⟨rfl,bE.out⟩
end
section
open Go.ChangeShapes Go.WideShapes Go.ChangeAt Go.RowKit Go.ChangeMaps
theorem VV:ownKnob Tryz.prog.godebug=none:=Ay
theorem O4:laidOutB Tryz.prog=true:=Ay
theorem QB(os:Os)(started:os.Started)(H:Type)(enc:TypeId×Value->H):
  ReturnsInHanded {} Tryz.checked os 4 .any (Rows.topOrderSpec.pre6 enc Tryz.prog Tryz.f4 Rows.topOrderRow.domain false) (Rows.topOrderSpec.post enc Tryz.prog Tryz.f4 false true false false):=by
 refine aG (C:=Tryz.checked) (tb:=4) VV started Ay Tryz.func4
  (ChangeSpec.witness6 (enc:=enc) (C:=Tryz.checked) false ⟨#[],#[.agg #[.int .u8 0,.int .u8 0,sN,sN,sN]],[]⟩ 8 Ay Ay Ay Ay)
  O4 (by rw[Tryz.params4];intro t ht;simp at ht;subst ht;exact⟨Ay,Il Ay⟩) Ay Ay Tryz.underlying4
  (by
   intro ds gs h hg;rw[Tryz.params4]at h
   match ds,gs,h,hg with
   |[d0],[],_,_=>exact⟨rfl,rfl,rfl⟩) ?_
 intro W base args ds gs before hval0 hW hsz;have hval:∀(j:tyN) t v,Tryz.f4.params[j]?=some t->args[j]?=some v->Value.okWide Tryz.prog W .any base t v:=hval0;obtain⟨p,q,hA0,_,_,_,_⟩:=hW;have hA:DataW.TrodAll enc Tryz.prog W 0 (λ_=>true) true Tryz.f4.params.toList args.toList ds p:=hA0;clear hA0 hval0;rw[Tryz.params4]at hA hval;obtain⟨v0,d0,rfl,rfl,h0⟩:=trodAll_one hA
 obtain⟨x0,x1,C,q,cc,A,l,c,B,m,k,rfl,hx,hq,hl,hm⟩:=eX Tryz.underlying40 Ay Ay Tryz.underlying5 Tryz.underlying5 Tryz.underlying38 Tryz.underlying24 Tryz.underlying25
  Tryz.underlying68 Ay rfl rfl rfl Ay Ay Ay Tryz.underlying3 Tryz.underlying3 Tryz.underlying4 Tryz.underlying3 Ay Tryz.underlying25 Ay Tryz.underlying3 Ay (hval 0 40 v0 rfl rfl) h0
 exact Z4 x0 x1 q l m C A B cc c k W hx hq hl hm
theorem topOrder_holds:Rows.TopOrderSaid:=
 OpenClaim.holds_of_wide 4 Tryz.f4 rfl rfl rfl rfl rfl rfl rfl ⟨rfl,rfl,rfl,rfl,rfl⟩ rfl rfl rfl rfl rfl Ay Tryz.func4 Ay
  (Il Ay) (by unfold Func.isWrapper;first|(rw[AK SU];kernel_rfl)|(rw[AI SU];exact⟨rfl,rfl⟩))
  (λos started H enc _=>QB os started H enc)
end
end Go.Proofs.YtpodgcpkccpnfaaGreat
