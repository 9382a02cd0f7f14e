import Derived.Deep.Slices
import Derived.Deep.Fields
import Derived.ChangeSame
import Derived.Test.YtpodgcpkccpnfaaGreatPk11
set_option linter.unusedVariables false
set_option linter.unusedSimpArgs false
set_option maxRecDepth 20000
set_option maxHeartbeats 40000000
namespace Go.Proofs.YtpodgcpkccpnfaaGreat
variable{cs:Array Value}{l:List SD}{N b i q t:Nat}{ow:Nat->Nat}{va vl:Nat->Value}{A:Option Addr}{e:TypeId}{lv:Value}{S:WD}{Z:WK}{W:World}
section
open Go.RowKit
theorem Jk{P:Program}{ops:Array Oper}{rest:List Oper}{o:Oper}{a:Act}{Q:Exit->Act->World->Prop}{w:tyW}{e:TypeId}{news:List Value}(hgd:o.guard=none)(s x:Operand)(t:TypeId)
  (ho:o.op= .call {callee:= .builtin .append,args:= #[s,x],argTypes:= #[t,t]})
  (B:tyN) (i:TypeInfo) (z:tyV) (size bytes:tyN) (ht:P.underlying t=some (.slice e)) (hi:P.info? e=some i) (hz:i.zero=some z)
  (hsize:i.size=size) (hby:i.bytes=bytes) (hzs:z.cells.size=size) (hsz:0<size)
  (v:tyV) (n:tyN) (xs:List Value) (hs:a.eval s=v) (hown:w.ownsRow B e size v n xs)
  (hx:a.eval x=BG w 0 1 1) (hl:news.length=size) (h1:∀u∈news,u.oneCell'=true)
  (hb1:0<bytes) (hbytes:(n+1)*bytes<=140737488355328) (hB:B<=w.heap.size)
  (h:∀g cap w',w'.ownsRow B e size (BG g 0 (n+1) cap) (n+1) (xs++news)->w.grownBy w' v.ownBlock->(v.ownBlock=some g\/w.heap.size<=g)->g<w'.heap.size->Below B w w'->wpList P ops Q rest (a.put o.dst (BG g 0 (n+1) cap)) w'):
  wpList P ops Q (o::rest) a (w.alloc (Y news.toArray e)):=by
 have h63:n+1<=maxLen:=by
  have:n+1<=(n+1)*bytes:=TE _ hb1;unfold maxLen;omega
 refine wpList_append_lies (w.alloc (Y news.toArray e)) hgd s x t ho B e i z size bytes ht hi hz hsize hby hzs hsz v n xs hs (hown.alloc _) ⟨w.heap.size,0,none⟩ 1 1 news hx J (λj u hu=>CQ w news e j u hu) h1 AQ h63 hbytes (by simp;omega) _ rfl ?_;intro g cap w' hown' hg hor hlt;have hg':w.grownBy w' v.ownBlock:=⟨hg.os,hg.tape,hg.output,DB Az hg.size,λk hk hne=>(hg.block k (by simp;omega) hne).trans (JP w _ k hk)⟩;exact h g cap w' hown' hg' (hor.imp id (λe=>by rw[e];simp)) hlt (grownBy_below hg' hB (DS hown))
theorem YG{S1:WD}{evs:List D6}(H:Wd Z W S N va vl ow)(hZ:bV Z)(ht:t<Z.n)(FU:S.now<=1000000000)(hh:(S.AU t).CV=false)(hst:(S.AU t).st=2)(hN:N<=90000)
  (hD:∀W2,Wd Z W2 S.tick N va vl ow->QN Z W2) (hdr:Z.M.draws.length=0\/S.drawn<Z.M.draws.length) (ABi:(S.AU t).ans.length<=100000) (hacc:(S.AU t).GD<=1000000)
  (Yt:∀W2 va2 ow2,Wd Z W2 (GS Z.M t S.tick) N va2 vl ow2->(∀k,k<W.heap.size->ow2 k=ow k)->Calls Tryz.prog 57 #[pT Z.b,t] W2 (Ha Z N W2 ow2 evs S1)) (hev:evs.length<=2000):
  Calls Tryz.prog 26 #[pT Z.b,t] W (Ex Z N W ow evs S1):=by
 have HAT:=I (G4 Z.b Z.g Z.n Z.c1 t W (H.cb 2 AQ) ht hZ.n8 hZ.cap);have b5:V W Z.b 5 S.now:=H.cb 5 AQ;have f5:=H.fb 5;obtain⟨n1,hw,Gp⟩:=H.kf FU;have HN:=I Gp;have HKK:=I (λ(k:tyN) (hk:ow k=0)=>show hSM (W.setCell (aD Z.b 5) n1) W k from BF W ⟨Z.b,5,none⟩ _ k (λe=>by rw[e,H.ob]at hk;cases hk));have uM:=I (show ow Z.b=1/\ow Z.g=2 from⟨H.ob,H.og⟩);have hcg:=(Gp.cg t ht).cell;have g10:V (W.setCell (aD Z.b 5) n1) Z.g (t*11+10) false:=by have h:=hcg 10 AQ;rw[<-hh];exact h
 have g7:V (W.setCell (aD Z.b 5) n1) Z.g (t*11+7) (O 2):=by have h:=hcg 7 AQ;rw[<-hst];exact h
 have EK:=I (show(W.setCell (aD Z.b 5) n1).heap.size=W.heap.size by simp);have US:=I Yt;have Ks:=I (And.intro hev (And.intro hN (And.intro ht (And.intro ABi hacc))));have HDR:=I (λ(W2:tyW) (h:Wd Z W2 S.tick N va vl ow)=>fF h (hD W2 h) t hdr);have HZ:=I hZ;clear hcg H Gp hst hh ht hZ FU Yt hev hN hD hdr ABi hacc;go_enter Tryz.func26,Tryz.ntmps26;go_wp2_with fail;refine Ej 1 rfl (λAC hJ=>?_);go_wp2_with fail;refine HAT.mono ?_;rintro e w1 ⟨rfl,rfl⟩;go_upto_region 17 with fail;clear HAT b5 f5 g10 g7;generalize w1.setCell (aD Z.b 5) n1=W1 at*;have HH:=I (HN.grow (AV W1).drew);have HD1:=I (HDR W1.drew HH)
 have hS:V W1.drew Z.b 1 (pT Z.h)/\V W1.drew Z.g (t*11+4) (O (S.AU t).acc.1)/\V W1.drew Z.g (t*11+5) (O (S.AU t).acc.2.1)/\V W1.drew Z.g (t*11+6) (O (S.AU t).acc.2.2):=
  ⟨HH.cb 1 AQ,(HH.cg t Ks.2.2.1).cell 4 AQ,(HH.cg t Ks.2.2.1).cell 5 AQ,(HH.cg t Ks.2.2.1).cell 6 AQ⟩
 refine Br (S:=λw'=>V w' Z.b 1 (pT Z.h)/\V w' Z.g (t*11+4) (O (S.AU t).acc.1)/\V w' Z.g (t*11+5) (O (S.AU t).acc.2.1)/\V w' Z.g (t*11+6) (O (S.AU t).acc.2.2)) Ay hS (λhS0=>?_);clear hS HDR;refine tq 0 hS0 ?_;refine tq 1 hS0 ?_;refine tq 2 hS0 ?_;refine tq 3 hS0 ?_;refine tq 4 hS0 ?_;refine tq 5 hS0 ?_;refine tq 6 hS0 ?_;refine tq 7 hS0 ?_;refine tq 8 hS0 ?_;refine tq 9 hS0 ?_;refine tr 10 λK hK=>?_
 go_simp;refine HD1.mono ?_;rintro e w2 ⟨rfl,hB2,hF2⟩;have H2:=I hB2;have Yr:=I hF2;have HE2:=I (kU Z.l Z.B Z.h N S.Dc (λk=>ow k=3) t (EP Z.M t S.tick) w2 J (by have:=HZ.out.n8;have:=Ks.2.2.1;omega) hB2.bk (by have:=Ks.2.1;omega) Z.M.fresh)
 have hS2:V w2 Z.b 1 (pT Z.h)/\V w2 Z.g (t*11+4) (O (S.AU t).acc.1)/\V w2 Z.g (t*11+5) (O (S.AU t).acc.2.1)/\V w2 Z.g (t*11+6) (O (S.AU t).acc.2.2):=
  ⟨hB2.cb 1 AQ,(hB2.cg t Ks.2.2.1).cell 4 AQ,(hB2.cg t Ks.2.2.1).cell 5 AQ,(hB2.cg t Ks.2.2.1).cell 6 AQ⟩
 clear hB2 hF2 HD1 HH;obtain⟨dv,hdv⟩:=gX (EP Z.M t S.tick);have zH:=I hdv;rw[hdv]at HE2|-;clear hdv;refine bk hK hS2 λGJ=>?_
 refine tr 11 λK hK=>?_
 go_simp;refine HE2.mono ?_;obtain⟨R,hR⟩:=gX (S.Dc.Bm Z.M.fresh t dv);have HR:=I hR;rw[hR];clear hR;obtain⟨r1,r2,u'⟩:=R;rintro e w3 ⟨rfl,hB3,hF3⟩;have H3:Hid (Wd Z w3 (⟨S.n,S.AU,u',Iw Z.M t S.tick,S.now+1⟩:WD) N va vl (λk=>if w2.heap.size<=k/\k<w3.heap.size then 3 else ow k)):=I (H2.Dc hF3 hB3);have nH:=I hF3
 have Gy:V w3 Z.b 1 (pT Z.h)/\V w3 Z.g (t*11+4) (O (S.AU t).acc.1)/\V w3 Z.g (t*11+5) (O (S.AU t).acc.2.1)/\V w3 Z.g (t*11+6) (O (S.AU t).acc.2.2):=
  ⟨H3.cb 1 AQ,(H3.cg t Ks.2.2.1).cell 4 AQ,(H3.cg t Ks.2.2.1).cell 5 AQ,(H3.cg t Ks.2.2.1).cell 6 AQ⟩
 clear hB3 hF3 HE2 H2;refine bk hK Gy λhS5=>?_
 refine tq 12 hS5 ?_;refine tq 13 hS5 ?_;refine tq 14 hS5 ?_;refine tq 15 hS5 ?_;refine CN Ay ?_ _
 try simp only[Act.put,DH,DI,DG,Ei,Ef,Ee]
 clear hS0 hS2 GJ Gy hS5
 have ABj:=I (λ(k:tyN) (hk:k<w1.heap.size) (h0:ow k=0)=>show hSM w3 w1 k from by
  have h1:k<W1.drew.heap.size:=by show k<W1.heap.size;rw[EK];exact hk
  exact(nH.block k (B5 h1 Yr.size) (by rw[h0];decide)).trans ((Yr.block k h1 (λe=>by rw[e,uM.1]at h0;cases h0)).trans (HKK k h0)))
 have sB:=I (λ(k:tyN) (hk:k<w1.heap.size)=>show(λk=>if w2.heap.size<=k/\k<w3.heap.size then 3 else ow k) k=ow k from AI (by have h1:=Yr.size;have h2:=EK.out;have h3:W1.drew.heap.size=W1.heap.size:=rfl;omega));have nE:=I (show w1.heap.size<=w3.heap.size from by have h1:=Yr.size;have h2:=EK.out;have h3:W1.drew.heap.size=W1.heap.size:=rfl;have h4:=nH.size;omega);clear Yr nH HKK EK;generalize(λk=>if w2.heap.size<=k/\k<w3.heap.size then 3 else ow k)=ow3 at*;have zJ:Hid (w3.ownsRow Z.B 3 1 (va t) (S.AU t).ans.length (Aj (S.AU t).ans)):=I (H3.ra t Ks.2.2.1);have o7:=I (λk (e:(va t).ownBlock=some k)=>show ow3 k=4+2*t from H3.oa t k Ks.2.2.1 e);have g3:V w3 Z.g (t*11+3) (va t):=(H3.cg t Ks.2.2.1).cell 3 AQ;obtain⟨i0,hi,hz0,hz1,hz2⟩:=info_parts QS;have HI:=I hi;have HZ0:=I hz0;have HZ1:=I hz1;have HZ2:=I hz2;have HX:=I (λ(w4:tyW) (g1 cap:tyN)=>H3.zv (W1:=w4) (t:=t) Ks.2.2.1 (g1:=g1) (cap:=cap) (x:=r1));have zK:=I H3.sz;clear hi hz0 hz1 hz2 H3;obtain⟨Aa,ca,hva,hac,_⟩:=Af zJ;rw[hva]at g3 zJ;dsimp only at HX;obtain⟨n,hn⟩:=gX ((S.AU t).ans.length);have rz:=I hn;rw[hn]at zJ HX hva g3;rw[hva]at HX;have HVA:=I hva
 have HVO:=I (λk (e:Value.ownBlock (AR Aa n ca)=some k)=>show ow3 k=4+2*t/\k<w3.heap.size from by
  exact⟨o7 k (by rw[hva];exact e),(zJ.lt k e).2⟩)
 have HAN:=I (show n<=100000 by have:=Ks.out.2.2.2.1;omega);clear hn hva hac;go_upto_region 19 with(at_builtin;refine Jk (news:=[.int .i64 r1]) rfl (.tmp 75) (.tmp 77) 25 rfl Z.B i0 () 1 8 Tryz.underlying25 HI HZ0 HZ1 HZ2 rfl AQ _ n (Aj (S.AU t).ans) rfl zJ rfl rfl (by simp[Value.oneCell']) AQ (by have:=HAN.out;omega) zK ?_;intro g1 cap w4 uO hg4 xP AFt ABm;obtain⟨c3,f3,ABn⟩:=HX w4 g1 cap hg4 uO xP;have HG4:=I (And.intro hg4 xP);have IM:=I ABn;clear ABn uO hg4 xP AFt ABm)
 have ABo:=I (λ(k:tyN) (hk:k<w1.heap.size)=>show(λk=>if k=g1 then 4+2*t else ow3 k) k=ow k from by
  show(if k=g1 then 4+2*t else ow3 k)=ow k;by_cases e:k=g1
  .rw[AK e];rcases HG4.2 with h|h
   .rw[<-sB k hk,e];exact(HVO g1 h).1.symm
   .have:=nE.out;omega
  .rw[AI e];exact sB k hk)
 have ABp:=I (λ(k:tyN) (hk:k<w1.heap.size) (h0:ow k=0)=>show hSM (w4.setCell (aD Z.g (t*11+3)) (BG g1 0 (n+1) cap)) w1 k from by
  rw[BF w4 ⟨Z.g,t*11+3,none⟩ _ k (λe=>by rw[e,uM.2]at h0;cases h0)]
  exact(HG4.1.block k (by have:=nE.out;omega) (λe=>by have h1:=(HVO k e.symm).1;rw[sB k hk]at h1;omega)).trans (ABj k hk h0))
 have uP:=I (show w1.heap.size<=(w4.setCell (aD Z.g (t*11+3)) (BG g1 0 (n+1) cap)).heap.size from by have:=nE.out;have:=HG4.1.size;simp;omega);generalize w4.setCell (aD Z.g (t*11+3)) (BG g1 0 (n+1) cap)=W5 at*;clear c3 f3 HX zJ g3 HI HZ0 HZ1 HZ2 HG4 HVO o7 HVA ABj sB;generalize(λk=>if k=g1 then 4+2*t else ow3 k)=ow5 at*;generalize(λi=>if i=t then Value.slice (some (aD g1 0)) (n+1) cap else va i)=va5 at*;have hc:=(IM.cg t Ks.2.2.1).cell;rw[BE]at hc;obtain⟨ac,xQ⟩:=gX ((S.AU t).GD);have g9:V W5 Z.g (t*11+9) ac:=by rw[<-xQ];exact hc 9 AQ
 have f9:=IM.fg (t*11+9);obtain⟨a1,ha1⟩:=gX (ac+1);have hwa:wrap64 ((ac:tyI)+1)=(a1:tyI):=by have:=Ks.out.2.2.2.2;rw[<-ha1];exact PC J
 have rS:=I (show GS Z.M t S.tick=(⟨S.n,S.AU,u',Iw Z.M t S.tick,S.now+1⟩:WD).put t {S.AU t with ans:=(S.AU t).ans++[r1],GD:=a1}from by
  unfold GS;rw[show S.tick.Dc=S.Dc from rfl,zH,HR,<-ha1,<-xQ]
  rfl)
 have HA:=I (IM.oV (j:=9) Ks.2.2.1 AQ a1 {S.AU t with ans:=(S.AU t).ans++[r1],GD:=a1} (λi hi=>by match i,hi with|0,_|1,_|2,_|3,_|4,_|5,_|6,_|7,_|8,_|9,_|10,_=>rfl) rfl rfl);have AFu:=I (λ(k:tyN) (hk:k<w1.heap.size) (h0:ow k=0)=>show hSM (W5.setCell (aD Z.g (t*11+9)) a1) w1 k from(BF W5 ⟨Z.g,t*11+9,none⟩ _ k (λe=>by rw[e,uM.2]at h0;cases h0)).trans (ABp k hk h0));have xN:=I (show w1.heap.size<=(W5.setCell (aD Z.g (t*11+9)) a1).heap.size from by have:=uP.out;simp;omega);clear hc IM xQ ha1 ABp uP;go_wp2_with fail;refine wp_label ?_;clear g9 f9;generalize W5.setCell (aD Z.g (t*11+9)) a1=W6 at*;have HP6:=I (US W6 va5 ow5 (by rw[rS];exact HA) ABo);clear US HA rS;obtain⟨i0,hi',hz0,hz1,hz2⟩:=info_parts GF;have V8:=I hi';have HZ0:=I hz0;have HZ1:=I hz1;have HZ2:=I hz2;clear hi' hz0 hz1 hz2;go_wp2_with fail;refine HP6.mono ?_;rintro e w7 ⟨v,nT,nU,SI,rfl,hE,hW,hO,hF,hV⟩;have HE7:=I hE;have HW7:=I hW
 have sA:=I (λ(v8:tyV) (w8:tyW) (h1:w8.ownsRow w7.heap.size 60 7 v8 (0+evs.length) ([]++evs.flatMap SZ)) (h2:w7.grownBy w8 (Value.ownBlock sN)) (h3:Below w7.heap.size w7 w8)=>
  show Ex Z N w1 ow evs S1 (.returned v8) w8 from by
   have hup:Up w7 w8:=h3;rw[PL,Dw]at h1
   have hs7:w1.heap.size<=w7.heap.size:=by
    rcases CR w7.heap.size W6.heap.size with h|h
    .have h1:=hF w7.heap.size h (λe=>by have:=hW.gt;omega);rw[Array.getElem?_eq_none (A9 _),cj h]at h1;cases h1
    .exact DB xN h
   exact⟨v8,nT,nU,SI,N,rfl,Da h1 hs7,J,hW.grow hup,λk hk=>(hO k (B5 hk xN)).trans (ABo k hk),λk hk h0=>(hup.block k J).trans ((hF k (B5 hk xN) (λe=>by rw[e,uM.2]at h0;cases h0)).trans (AFu k hk h0)),λk e=>hW.free (h1.lt k e).1⟩)
 clear hE hW hO hF hV HP6;go_wp2_with(at_builtin;refine Dm rfl (.tmp 88) (.tmp 91) 30 rfl w7.heap.size 60 i0 (.agg #[(),(),(),(),(),(),()]) 7 56 Tryz.underlying30 V8 HZ0 HZ1 HZ2 rfl AQ _ 0 [] rfl (C3 _ _ _ _) _ _ evs.length (evs.flatMap SZ) rfl HE7 (NL evs) AQ (by have:=Ks.out.1;omega) (A9 _) ?_;intro v8 w8 uQ hg8 uR AFw;have H8:=I (sA v8 w8 uQ hg8 uR);clear HE7 uQ hg8 uR AFw)
 go_ret;exact H8
theorem Z7(H:Wd Z W S N va vl ow)(hZ:bV Z)(ht:t<Z.n)(hh:(S.AU t).CV=true):
  Calls Tryz.prog 25 #[pT Z.b,t] W (Ex Z N W ow [] S):=by
 have HAT:=I (G4 Z.b Z.g Z.n Z.c1 t W (H.cb 2 AQ) ht hZ.n8 hZ.cap);have g10:V W Z.g (t*11+10) true:=by have h:=(H.cg t ht).cell 10 AQ;rw[<-hh];exact h
 have HN:=I H;clear H hh ht hZ;go_enter Tryz.func25,Tryz.ntmps25;go_wp2_with fail;refine HAT.mono ?_;rintro e w1 ⟨rfl,rfl⟩
 go_wp2
 go_ret;exact⟨_,va,vl,ow,N,rfl,CU.nil _ _,J,HN,λ_ _=>rfl,λk _ h=>rfl,λk e=>by cases e⟩
theorem cG(w:tyW)(news:List Value)(e:TypeId)(size:tyN)(hl:news.length=size):(w.alloc (Y news.toArray e)).ownsRow w.heap.size e size (BG w 0 1 1) 1 news:=
 ⟨J,.inr ⟨w.heap.size,1,news.toArray,rfl,A9 _,Ah w _,A9 _,by unfold maxLen;decide,by simp[hl],by rw[MZ,<-hl];simp⟩⟩
theorem iU(H:Wd Z W S N va vl ow)(hZ:bV Z)(ht:t<Z.n)(hh:(S.AU t).CV=false):
  Calls Tryz.prog 25 #[pT Z.b,t] W (Ex Z N W ow [⟨S.now,4,t,(S.AU t).next,0,0,0⟩] (S.put t {S.AU t with CV:=true})):=by
 have HAT:=I (G4 Z.b Z.g Z.n Z.c1 t W (H.cb 2 AQ) ht hZ.n8 hZ.cap);have g10:V W Z.g (t*11+10) false:=by have h:=(H.cg t ht).cell 10 AQ;rw[<-hh];exact h
 have f10:=H.fg (t*11+10);have hps:Wd Z W (S.put t (S.AU t)) N va vl ow:=by rw[WP];exact H
 have HN:=I (hps.oV (j:=10) ht AQ true {S.AU t with CV:=true} (λi hi=>by match i,hi with|0,_|1,_|2,_|3,_|4,_|5,_|6,_|7,_|8,_|9,_|10,_=>rfl) rfl rfl);have HKK:=I (λ(k:tyN) (hk:ow k=0)=>show hSM (W.setCell (aD Z.g (t*11+10)) true) W k from BF W ⟨Z.g,t*11+10,none⟩ _ k (λe=>by rw[e,H.og]at hk;cases hk));have EK:=I (show(W.setCell (aD Z.g (t*11+10)) true).heap.size=W.heap.size by simp);have HT:=I ht;clear H hps hh ht hZ;go_enter Tryz.func25,Tryz.ntmps25;go_wp2_with fail;refine HAT.mono ?_;rintro e w1 ⟨rfl,rfl⟩;go_upto_region 5 with fail;clear g10 f10 HAT;generalize w1.setCell (aD Z.g (t*11+10)) true=W1 at*
 have hsu:∀W',Up W1 W'->V W' Z.b 5 S.now/\V W' Z.g (t*11+1) (O (S.AU t).next):=λW' u=>by
  have hc:=((HN.grow u).cg t HT).cell;rw[BE]at hc;exact⟨(HN.grow u).cb 5 AQ,hc 1 AQ⟩
 have hS:=hsu W1.drew (AV W1).drew;have Gq:=I hsu;obtain⟨nx,hnx⟩:=gX ((S.AU t).next);obtain⟨nw,hnw⟩:=gX S.now;rw[hnx,hnw]at hS Gq;have QE:=I (And.intro hnx hnw);clear hsu hnx hnw;refine Br (S:=λw'=>V w' Z.b 5 nw/\V w' Z.g (t*11+1) nx) Ay hS (λhS0=>?_);clear hS;refine tq 0 hS0 ?_;refine tq 1 hS0 ?_;refine tq 2 hS0 ?_;refine tq 3 hS0 ?_;refine tq 4 hS0 ?_;refine tq 5 hS0 ?_;refine tq 6 hS0 ?_;refine tq 7 hS0 ?_;refine tq 8 hS0 ?_;refine tq 9 hS0 ?_;refine tr 10 λK hK=>?_
 go_simp;refine bk hK (Gq _ (((AV W1).alloc _).drew)) λhS1=>?_
 refine tq 11 hS1 ?_;refine CN Ay ?_ _
 try simp only[Act.put,DH,DI,DG,Ei,Ef,Ee]
 have HR:=I (show CU (W1.alloc (Y #[nw,O 4,t,nx,(),(),()] 60)).drew W1.heap.size (BG W1 0 1 1) [⟨nw,4,t,nx,0,0,0⟩]from cG W1 [nw,O 4,t,nx,(),(),()] 60 7 rfl);have hU:Up W1 (W1.alloc (Y #[nw,O 4,t,nx,(),(),()] 60)).drew:=((AV W1).alloc _).drew;have HU:=I hU;clear hS0 hS1 hU Gq
 go_wp2
 go_ret;have hev:(⟨S.now,4,t,(S.AU t).next,0,0,0⟩:D6)=⟨nw,4,t,nx,0,0,0⟩:=by rw[QE.1,QE.2]
 refine⟨_,va,vl,ow,N,rfl,by rw[hev,<-EK];exact HR,J,HN.grow HU,λ_ _=>rfl,λk hk h0=>(HU.block k (by rw[EK];exact hk)).trans (HKK k h0),λk e=>?_⟩;exact HN.free (CX HR k e).1
section
variable {Z:WK}{W:tyW}{S:WD}{N:tyN}{va vl:Nat->Value}{ow:Nat->Nat}
theorem jt(H:Wd Z W S N va vl ow):Calls Tryz.prog 27 #[pT Z.b] W λe w'=>e=BA S.now/\w'=W:=by
 have b5:V W Z.b 5 S.now:=H.cb 5 AQ;clear H;go_enter Tryz.func27,Tryz.ntmps27
 go_wp2
 go_ret;exact⟨rfl,rfl⟩
theorem iO(H:Wd Z W S N va vl ow)(hZ:bV Z)(ht:t<Z.n):Calls Tryz.prog 29 #[pT Z.b,t] W λe w'=>e=BA (O (S.AU t).next)/\w'=W:=by
 have HAT:=I (G4 Z.b Z.g Z.n Z.c1 t W (H.cb 2 AQ) ht hZ.n8 hZ.cap);have g1:V W Z.g (t*11+1) (O (S.AU t).next):=(H.cg t ht).cell 1 AQ;clear H ht hZ;go_enter Tryz.func29,Tryz.ntmps29;go_wp2_with fail;refine HAT.mono ?_;rintro e w1 ⟨rfl,rfl⟩
 go_wp2
 go_ret;exact⟨rfl,rfl⟩
theorem fx(H:Wd Z W S N va vl ow)(hZ:bV Z)(ht:t<Z.n):Calls Tryz.prog 31 #[pT Z.b,t] W λe w'=>e=BA (O (S.AU t).GD)/\w'=W:=by
 have HAT:=I (G4 Z.b Z.g Z.n Z.c1 t W (H.cb 2 AQ) ht hZ.n8 hZ.cap);have g1:V W Z.g (t*11+9) (O (S.AU t).GD):=(H.cg t ht).cell 9 AQ;clear H ht hZ;go_enter Tryz.func31,Tryz.ntmps31;go_wp2_with fail;refine HAT.mono ?_;rintro e w1 ⟨rfl,rfl⟩
 go_wp2
 go_ret;exact⟨rfl,rfl⟩
def ZV (th:N8):Int:=if th.CV=true then 3 else if th.st=0/\th.prog.length<=th.next then 4 else th.st
theorem ag(H:Wd Z W S N va vl ow)(hZ:bV Z)(ht:t<Z.n){PA:tyA}{pc:tyN}(hpv:Z.pv t=AR PA (S.AU t).prog.length pc):Calls Tryz.prog 30 #[pT Z.b,t] W λe w'=>e=BA (O (ZV (S.AU t)))/\Up W w':=by
 have HAT:=I (G4 Z.b Z.g Z.n Z.c1 t W (H.cb 2 AQ) ht hZ.n8 hZ.cap);have g10:V W Z.g (t*11+10) (.bool (S.AU t).CV):=(H.cg t ht).cell 10 AQ;have g7:V W Z.g (t*11+7) (O (S.AU t).st):=(H.cg t ht).cell 7 AQ;have g1:V W Z.g (t*11+1) (O (S.AU t).next):=(H.cg t ht).cell 1 AQ;have g0:V W Z.g (t*11) (AR PA (S.AU t).prog.length pc):=by rw[<-hpv];exact(H.cg t ht).cell 0 AQ
 obtain⟨v,hv⟩:=gX (ZV (S.AU t));rw[hv];have HV:=I hv;unfold ZV at HV;generalize(S.AU t).prog.length=pl at*;generalize(S.AU t).next=nx at*;generalize(S.AU t).st=st at*;clear H ht hZ hpv hv;by_cases hh:(S.AU t).CV=true
 .rw[hh]at g10;have hv:3=v:=by rw[<-HV,AK hh]
  subst hv;clear hh HV;go_enter Tryz.func30,Tryz.ntmps30;go_wp2_with fail;refine HAT.mono ?_;rintro e w1 ⟨rfl,rfl⟩
  go_wp2
  go_ret;exact⟨rfl,AV _⟩
 .have hf:(S.AU t).CV=false:=by simpa using hh
  rw[hf]at g10;rw[AI hh]at HV;clear hf hh;by_cases h0:st=0
  .subst h0;by_cases hl:pl<=nx
   .have hv:4=v:=by rw[<-HV,AK ⟨rfl,hl⟩]
    subst hv;have hd:(pl:tyI)<=(nx:tyI):=J;clear HV hl;go_enter Tryz.func30,Tryz.ntmps30;go_wp2_with fail;refine HAT.mono ?_;rintro e w1 ⟨rfl,rfl⟩;go_upto_region 6 with fail;go_quiet(fail)
    go_wp2
    go_ret;exact⟨rfl,AV _|>.drewN _⟩
   .have hv:0=v:=by rw[<-HV,AI (λh=>hl h.2)]
    subst hv;have hd:(nx:tyI)<(pl:tyI):=J;clear HV hl;go_enter Tryz.func30,Tryz.ntmps30;go_wp2_with fail;refine HAT.mono ?_;rintro e w1 ⟨rfl,rfl⟩;go_upto_region 6 with fail;go_quiet(fail)
    go_wp2
    go_ret;exact⟨rfl,AV _|>.drewN _⟩
  .have hv:st=v:=by rw[<-HV,AI (λh=>h0 h.1)]
   subst hv;have hd:(st==0)=false:=by rw[Dy];exact h0
   clear HV h0;go_enter Tryz.func30,Tryz.ntmps30;go_wp2_with fail;refine HAT.mono ?_;rintro e w1 ⟨rfl,rfl⟩;go_upto_region 6 with fail;go_quiet(fail)
   go_wp2
   go_ret;exact⟨rfl,AV _|>.drewN _⟩
end
def LQ (w:tyW)(A:tyA)(l:List CD):Prop:= ∀i,i<l.length->∃b off,A=some ⟨b,off,none⟩/\V w b (off+i*3) (O (l.getD i (0,0,0)).1)/\V w b (off+i*3+1) (O (l.getD i (0,0,0)).2.1)/\V w b (off+i*3+2) (O (l.getD i (0,0,0)).2.2)
structure N7 (Z:WK)(AH:List (List CD))(stat:Nat->Prop):Prop where
 z:bV Z
 n:Z.n=AH.length
 st:∀k,stat k->k<Z.w1.heap.size
 ov:∃ob on oc,Z.ov=AR ob on oc
 pr:∀t,t<Z.n->∃A pc,Z.pv t=AR A (AH.getD t []).length pc/\(AH.getD t []).length<=pc/\(AH.getD t []).length<=1000000/\pc<=9223372036854775807/\LQ Z.w1 A (AH.getD t [])/\∀b off,A=some ⟨b,off,none⟩->0<(AH.getD t []).length->stat b
 dr:QN Z Z.w1
 ds:∀A l c b off,Z.dv=AR A l c->A=some ⟨b,off,none⟩->0<Z.M.draws.length->stat b
def aY (Z:WK)(AH:List (List CD))(stat:Nat->Prop):Prop:= ∀t,t<Z.n->∀x0 x1 x2,(x0,x1,x2)∈AH.getD t []->∀ans loc,ans.length<=5000->KW ans->loc.length<=32768->
 ∀(W2:tyW) (g' B:tyN),Below Z.B Z.w1 W2->(∀k,stat k->hSM W2 Z.w1 k)->Z.w1.heap.size<=g'->AX W2 g' B ⟨ans,loc,[],[]⟩->∀ob on oc,Z.ov=AR ob on oc->
 Calls Tryz.prog 84 #[pT g',AR ob on oc,.agg #[O x0,O x1,O x2],O t] W2 (AP encR g' B W2 ((Z.M.P t (x0,x1,x2)).BH ⟨ans,loc,[],[]⟩))
def LS (M:MD)(AH:List (List CD)):Prop:= ∀t c,c∈AH.getD t []->(M.P t c).few 1000
structure Fits (M:MD)(AH:List (List CD))(k:tyN)(S:WD):Prop where
 n:S.n=AH.length
 now:S.now<=k
 prog:∀t,t<S.n->(S.AU t).prog=AH.getD t []
 len:∀t,t<S.n->(S.AU t).ans.length<=k/\(S.AU t).GD<=k/\(S.AU t).loc.length<=32768/\(S.AU t).Bi<=1000
 st:∀t,t<S.n->(S.AU t).st=0\/(((S.AU t).st=1\/(S.AU t).st=2)/\(S.AU t).next<(S.AU t).prog.length)
 dr:M.draws.length=0\/S.drawn<M.draws.length
 P5:∀t,t<S.n->KW (S.AU t).ans
def Ky (x:tyI):Prop:=0<=x/\x<=1099511627776
theorem KW.snoc{l:tyL}{x:tyI}(h:KW l)(hx:Ky x):KW (l++[x]):=λy hy=>by
 rcases Cs.1 hy with hy|hy
 .exact h y hy
 .rw[Bq]at hy;subst hy;exact hx
theorem KW.nil:KW []:=λy hy=>by cases hy
section
variable {M:MD}{AH:List (List CD)}{k:tyN}{S:WD}
theorem Fits.start(M:MD)(AH:List (List CD)):Fits M AH 0 (Cv AH):=
 ⟨rfl,A9 _,λt _=>rfl,λt _=>⟨A9 _,A9 _,DV _,DV _⟩,λt _=> .inl rfl,by show M.draws.length=0\/0<_;omega,λt _=>KW.nil⟩
theorem Fits.tick(F:Fits M AH k S):Fits M AH (k+1) S.tick:=
 ⟨F.n,by have:=F.now;show S.now+1<=k+1;omega,F.prog,λt ht=>by obtain⟨h1,h2,h3,h4⟩:=F.len t ht;exact⟨UI h1,UI h2,h3,h4⟩,F.st,F.dr,F.P5⟩
theorem Fits.more{k':tyN}(F:Fits M AH k S)(h:k<=k'):Fits M AH k' S:=
 ⟨F.n,DB F.now h,F.prog,λt ht=>by obtain⟨h1,h2,h3,h4⟩:=F.len t ht;exact⟨DB h1 h,DB h2 h,h3,h4⟩,F.st,F.dr,F.P5⟩
theorem Fits.put(F:Fits M AH k S){th:N8}(h1:th.prog=(S.AU t).prog)(h2:th.ans.length<=k/\th.GD<=k/\th.loc.length<=32768/\th.Bi<=1000)(h3:th.st=0\/((th.st=1\/th.st=2)/\th.next<th.prog.length))(h4:KW th.ans):Fits M AH k (S.put t th):=by
 refine⟨F.n,F.now,λi hi=>?_,λi hi=>?_,λi hi=>?_,F.dr,λi hi=>?_⟩
 .by_cases e:i=t
  .subst e;rw[BE,h1];exact F.prog _ hi
  .rw[BT _ _ e];exact F.prog _ hi
 .by_cases e:i=t
  .subst e;rw[BE];exact h2
  .rw[BT _ _ e];exact F.len _ hi
 .by_cases e:i=t
  .subst e;rw[BE];exact h3
  .rw[BT _ _ e];exact F.st _ hi
 .by_cases e:i=t
  .subst e;rw[BE];exact h4
  .rw[BT _ _ e];exact F.P5 _ hi
theorem Lj{α:Type}:∀(o:Op α) (s:TS),(o.BH s).1=none->1<=(o.BH s).2.acc.length
 | .ret v,s,h=>by cases h
 | .ask a k,s,h=>by
  by_cases hlt:s.acc.length<s.ans.length
  .have e:(Op.ask a k).BH s=(k s.told).BH (s.asked a):=AK hlt;rw[e]at h|-;exact Lj _ _ h
  .have e:(Op.ask a k).BH s=(none,s.asked a):=AI hlt;rw[e];show 1<=(s.asked a).acc.length;rw[(TW s a).1];omega
 | .get i k,s,h=>Lj (k (s.get i)) s h
 | .set i v k,s,h=>Lj k (s.set i v) h
 | .note c k,s,h=>Lj k (s.DY c) h
 | .live k,s,h=>Lj (k true) s h
theorem eW(l:tyL):(Ag l).length<=l.length:=by rw[Sk];exact Kv _ _
theorem Lv(hF:LS M AH)(F:Fits M AH k S)(ht:t<S.n)(hn:(S.AU t).next<(S.AU t).prog.length)(hk:k<=4999):
  (Co M t (S.AU t)).2.Bi.length<=1000/\(Co M t (S.AU t)).2.acc.length<=100000/\((Co M t (S.AU t)).1=none->1<=(Co M t (S.AU t)).2.acc.length)/\(Ag (Co M t (S.AU t)).2.loc).length<=32768:=by
 obtain⟨h1,h2,h3,h4⟩:=F.len t ht
 have hin:(S.AU t).call∈AH.getD t []:=by
  rw[<-F.prog t ht];unfold N8.call;rw[gD,gG hn];exact KD hn
 have a1:=PJ (M.P t (S.AU t).call) 1000 ⟨(S.AU t).ans,(S.AU t).loc,[],[]⟩ (hF t _ hin);have a2:=PI (M.P t (S.AU t).call) ⟨(S.AU t).ans,(S.AU t).loc,[],[]⟩ (DV _);have a3:=eW (Co M t (S.AU t)).2.loc;refine⟨?_,?_,λhnone=>?_,?_⟩
 .have:(Co M t (S.AU t)).2.Bi.length<=([]:List (Int×Int)).length+1000:=a1;rw[Rn]at this;omega
 .have:(Co M t (S.AU t)).2.acc.length<=(S.AU t).ans.length+1:=a2.1;omega
 .exact Lj _ _ hnone
 .have:(Co M t (S.AU t)).2.loc.length<=max (S.AU t).loc.length 32768:=a2.2.2;omega
theorem au(M:MD)(t:tyN)(th:N8):(Gv M t th).prog=th.prog:=by unfold Gv;rcases Co M t th with⟨_|_,_⟩<;>rfl
theorem Fits.zn(hF:LS M AH)(F:Fits M AH k S)(ht:t<S.n)(hn:(S.AU t).next<(S.AU t).prog.length)(hk:k<=4999):Fits M AH k (DX M t S):=by
 obtain⟨a1,a2,a3,a4⟩:=Lv hF F ht hn hk;obtain⟨h1,h2,h3,h4⟩:=F.len t ht;refine F.put (au _ _ _) ?_ ?_ ?_
 .unfold Gv;rcases hr:Co M t (S.AU t)with⟨_|v,s'⟩
  .rw[hr]at a1;exact⟨h1,h2,h3,a1⟩
  .rw[hr]at a4;exact⟨DV _,h2,a4,DV _⟩
 .unfold Gv;rcases hr:Co M t (S.AU t)with⟨_|v,s'⟩
  .exact .inr ⟨.inl rfl,hn⟩
  .exact .inl rfl
 .unfold Gv;rcases hr:Co M t (S.AU t)with⟨_|v,s'⟩
  .exact F.P5 t ht
  .exact KW.nil
theorem Fits.begin(F:Fits M AH k S)(ht:t<S.n)(hn:(S.AU t).next<(S.AU t).prog.length):Fits M AH k (Cb M t S):=by
 unfold Cb;split
 .have:=F.put (t:=t) (th:={S.AU t with st:=2}) rfl (F.len t ht) (.inr ⟨.inr rfl,hn⟩) (F.P5 t ht);exact⟨this.n,this.now,this.prog,this.len,this.st,this.dr,this.P5⟩
 .exact F
theorem Xp(F:M.draws.length=0\/S.drawn<M.draws.length)(t:tyN):M.draws.length=0\/Iw M t S<M.draws.length:=by
 rcases F with h|h
 .exact .inl h
 .right
  unfold Iw;split
  .exact h
  .exact Nat.mod_lt _ J
theorem Fits.ends(F:Fits M AH k S)(ht:t<S.n)(hn:(S.AU t).next<(S.AU t).prog.length)(hst:(S.AU t).st=2)(hx:Ky (S.Dc.Bm M.fresh t (EP M t S)).1):Fits M AH (k+1) (GS M t S):=by
 obtain⟨h1,h2,h3,h4⟩:=F.len t ht;have:=(F.more (N9 k)).put (t:=t) (th:={S.AU t with ans:=(S.AU t).ans++[(S.Dc.Bm M.fresh t (EP M t S)).1],GD:=(S.AU t).GD+1}) rfl ⟨by simp;omega,by show(S.AU t).GD+1<=_;omega,h3,h4⟩ (.inr ⟨.inr hst,hn⟩) ((F.P5 t ht).snoc hx);exact⟨this.n,this.now,this.prog,this.len,this.st,Xp F.dr t,this.P5⟩
theorem Fits.halt(F:Fits M AH k S)(t:tyN):Fits M AH k (ID t S):=by
 unfold ID;split
 .exact F
 .rename_i h;have ht:t<S.n:=J;exact F.put rfl (F.len t ht) (F.st t ht) (F.P5 t ht)
end
theorem Fits.pick{M:MD}{AH:List (List CD)}{k:tyN}{S:WD}(hF:LS M AH)(F:Fits M AH k S)(t:tyN)(hk:k+2<=4999)(hx:t<S.n->(S.AU t).st=2->Ky (S.Dc.Bm M.fresh t (EP M t S.tick)).1):Fits M AH (k+1) (EQ M t S):=by
 unfold EQ;split
 .exact F.more (N9 k)
 rename_i h1;have ht:t<S.n:=J;split
 .exact F.tick
 split
 .split
  .exact F.tick
  .rename_i h2 h3 h4;have hn:(S.AU t).next<(S.AU t).prog.length:=J;have FP:=F.tick.zn hF (t:=t) ht hn J;unfold NB;split
   .rename_i h5;refine FP.begin ht ?_;rcases FP.st t ht with h|h
    .rw[h5]at h;cases h
    .exact h.2
   .exact FP
 rename_i h2 h3;have hn:=(F.st t ht).resolve_left h3;split
 .exact F.tick.begin ht hn.2
 .rename_i h4;have hst:(S.AU t).st=2:=hn.1.resolve_left h4;obtain⟨a1,a2,a3,a4⟩:=F.len t ht
  have FE:Fits M AH (k+1) (GS M t S.tick):=by
   have:=F.tick.put (t:=t) (th:={S.AU t with ans:=(S.AU t).ans++[(S.tick.Dc.Bm M.fresh t (EP M t S.tick)).1],GD:=(S.AU t).GD+1}) rfl ⟨by simp;omega,by show(S.AU t).GD+1<=_;omega,a3,a4⟩ (.inr ⟨.inr hst,hn.2⟩) ((F.P5 t ht).snoc (hx ht hst));exact⟨this.n,this.now,this.prog,this.len,this.st,Xp (S:=S.tick) F.dr t,this.P5⟩
  refine FE.zn hF ht ?_ J;show((GS M t S.tick).AU t).next<((GS M t S.tick).AU t).prog.length;have e:(GS M t S.tick).AU t={S.AU t with ans:=(S.AU t).ans++[(S.tick.Dc.Bm M.fresh t (EP M t S.tick)).1],GD:=(S.AU t).GD+1}:=BE S.tick t _;rw[e];exact hn.2
section
variable {Z:WK}{W:tyW}{S:WD}{N:tyN}{va vl:Nat->Value}{ow:Nat->Nat}{AH:List (List CD)}{stat:Nat->Prop}{k:tyN}
theorem N7.tQ(L:N7 Z AH stat)(H:Wd Z W S N va vl ow)(hs:∀k,stat k->ow k=0):∀k,stat k->hSM W Z.w1 k:=λk h=>H.ro k (L.st k h) (hs k h)
theorem N7.draws(L:N7 Z AH stat)(H:Wd Z W S N va vl ow)(hs:∀k,stat k->ow k=0):QN Z W:=by
 obtain⟨h1,A,c,h2,h3,h4,h5⟩:=L.dr;refine⟨h1,A,c,h2,λi hi=>?_,h4,h5⟩;obtain⟨b,off,e,hc⟩:=h3 i hi;exact⟨b,off,e,(CI (L.tQ H hs b (L.ds _ _ _ b off h2 e J))).trans hc⟩
theorem XS(L:N7 Z AH stat)(hD:aY Z AH stat)(hF:LS Z.M AH)(H:Wd Z W S N va vl ow)(hs:∀k,stat k->ow k=0)(F:Fits Z.M AH k S)(hk:k<=4999)(ht:t<Z.n)(hn:(S.AU t).next<(S.AU t).prog.length):
  Calls Tryz.prog 57 #[pT Z.b,t] W (Ha Z N W ow (JF Z.M t S) (DX Z.M t S)):=by
 have iz:t<S.n:=by rw[H.n];exact ht
 obtain⟨ob,on,oc,hov⟩:=L.ov;obtain⟨A,pc,hpv,hpc,xR,ABq,S2,hst⟩:=L.pr t ht;have hpr:=F.prog t iz;have hn2:(S.AU t).next<(AH.getD t []).length:=by rw[<-hpr];exact hn
 obtain⟨pb,po,e,c0,c1,c2⟩:=S2 _ hn2;have hb:=L.tQ H hs pb (hst pb po e J);obtain⟨a1,a2,a3,a4⟩:=Lv hF F iz hn hk;obtain⟨b1,b2,b3,b4⟩:=F.len t iz;have hcall:(S.AU t).call=(AH.getD t []).getD (S.AU t).next (0,0,0):=by unfold N8.call;rw[hpr]
 have hin:(AH.getD t []).getD (S.AU t).next (0,0,0)∈AH.getD t []:=by
  rw[gD (l:=AH.getD t []),gG hn2];exact KD hn2
 rcases hx:(AH.getD t []).getD (S.AU t).next (0,0,0)with⟨x0,x1,x2⟩
 rw[hx]at c0 c1 c2 hcall hin;rw[e]at hpv;refine gb H L.z ht hov hpv hn2 ⟨hpc,xR,ABq⟩ hcall ⟨(CI hb).trans c0,(CI hb).trans c1,(CI hb).trans c2⟩ (λW2 g' B hB hk2 hg hT=>?_) b3 J b4 _ rfl a1 a2 a3 J;exact hD t ht x0 x1 x2 hin _ _ J (F.P5 t iz) b3 W2 g' B hB (λi hi=>hk2 i (L.st i hi) (hs i hi)) hg hT ob on oc hov
theorem To(hF:LS Z.M AH)(F:Fits Z.M AH k S)(ht:t<S.n)(hn:(S.AU t).next<(S.AU t).prog.length)(hk:k<=4999):(JF Z.M t S).length<=2000:=by
 obtain⟨a1,-⟩:=Lv hF F ht hn hk;unfold JF;rw[Gx,Ca,jo];rcases hr:Co Z.M t (S.AU t)with⟨_|_,s'⟩
 .rw[hr]at a1;simp at a1|-;omega
 .rw[hr]at a1;simp only[IN]at a1|-;omega
theorem fy(L:N7 Z AH stat)(hD:aY Z AH stat)(hF:LS Z.M AH)(H:Wd Z W S N va vl ow)(hs:∀k,stat k->ow k=0)(F:Fits Z.M AH k S)(hk:k+2<=4999)(hN:N<=90000)(ht:t<Z.n)(hx:t<S.n->(S.AU t).st=2->Ky (S.Dc.Bm Z.M.fresh t (EP Z.M t S.tick)).1):
  Calls Tryz.prog 26 #[pT Z.b,t] W (Ex Z N W ow (KR Z.M t S) (EQ Z.M t S)):=by
 have iz:t<S.n:=by rw[H.n];exact ht
 have FU:S.now<=1000000000:=by have:=F.now;omega
 obtain⟨A,pc,hpv,hpc,xR,ABq,S2,hst⟩:=L.pr t ht;rw[<-F.prog t iz]at hpv hpc xR;unfold EQ KR;rw[AI (show¬S.n<=t by omega),AI (show¬S.n<=t by omega)];by_cases hh:(S.AU t).CV=true
 .rw[AK hh,AK hh];exact Qw H L.z ht FU hpv J (.inl hh)
 rw[AI hh,AI hh];have hh0:(S.AU t).CV=false:=by simpa using hh
 by_cases h0:(S.AU t).st=0
 .rw[AK h0,AK h0];by_cases hl:(S.AU t).prog.length<=(S.AU t).next
  .rw[AK hl,AK hl];exact Qw H L.z ht FU hpv J (.inr ⟨hh0,h0,hl⟩)
  .rw[AI hl,AI hl];have hn:(S.AU t).next<(S.AU t).prog.length:=J;have:=ar (evs:=JF Z.M t S.tick) (S1:=DX Z.M t S.tick) H L.z ht FU hh0 h0 hN hpv J hn (λW2 H2=>XS L hD hF H2 hs F.tick J ht hn) (To hF F.tick iz hn J);exact this
 rw[AI h0,AI h0];have hn:=(F.st t iz).resolve_left h0;by_cases h1:(S.AU t).st=1
 .rw[AK h1,AK h1];exact YZ H L.z ht FU hh0 h1 hN
 .rw[AI h1,AI h1];have xS:(S.AU t).st=2:=hn.1.resolve_left h1;obtain⟨a1,a2,a3,a4⟩:=F.len t iz;have e:(GS Z.M t S.tick).AU t={S.AU t with ans:=(S.AU t).ans++[(S.tick.Dc.Bm Z.M.fresh t (EP Z.M t S.tick)).1],GD:=(S.AU t).GD+1}:=BE S.tick t _;have FE:Fits Z.M AH (k+2) (GS Z.M t S.tick):=F.tick.ends iz hn.2 xS (hx iz xS);have xT:((GS Z.M t S.tick).AU t).next<((GS Z.M t S.tick).AU t).prog.length:=by rw[e];exact hn.2
  refine YG H L.z ht FU hh0 xS hN (λW2 H2=>L.draws H2 hs) F.dr J J (λW2 va2 ow2 H2 ho=>XS L hD hF H2 (λi hi=>?_) FE J ht xT) (To hF FE iz xT J);rw[ho i (B5 (L.st i hi) H.up.size)];exact hs i hi
theorem fh(L:N7 Z AH stat)(H:Wd Z W S N va vl ow)(ht:t<Z.n):
  Calls Tryz.prog 25 #[pT Z.b,t] W (Ex Z N W ow (JV t S) (ID t S)):=by
 have iz:t<S.n:=by rw[H.n];exact ht
 unfold ID JV;by_cases hh:(S.AU t).CV=true
 .rw[AK (.inr hh),AK (.inr hh)];exact Z7 H L.z ht hh
 .rw[AI (by rintro(h|h);omega;exact hh h),AI (by rintro(h|h);omega;exact hh h)];exact iU H L.z ht (Cw hh)
end
theorem GInv.small{M:MD}{AH:List (List CD)}{S:WD}{H:List Au}(hF:EE M)(h:GInv M AH S H)(ht:t<S.n)(hst:(S.AU t).st=2)(d:tyI):Ky (S.Dc.Bm M.fresh t d).1:=by
 obtain⟨cs,cur,ph,h1,h2⟩:=h.ex;obtain⟨hT,hnm⟩:=h1 t ht;have wJ:t<8:=by have:=h.n8;omega
 obtain⟨yu,mu⟩:=gX (ph t);rw[mu]at hT hnm;have hpt:FF S.n ph t=yu.pend:=by unfold FF;rw[AK ht,mu]
 cases yu with
 |mid o l=>exact absurd rfl (hnm o l)
 |idle=>have:=hT.stat.2.1;rw[hst]at this;cases this
 |asked a k l=>have:=hT.stat.1;rw[hst]at this;cases this
 |begun a k l b=>
  obtain⟨b1,b2⟩:=h2.ends wJ (hpt.trans rfl) d 0 0;obtain⟨_,_,_,_,_,_,_,_,_,_,_,_,hk,_⟩:=hT.stat;have:=b2.small hF hk;have ht:=hF.top a.2.1;exact⟨this.1,J⟩
structure MN where
 things:List Hk
 AH:List (List CD)
 picks:List BL
 draws:List Int
structure V4 where
 TA:Option Addr
 tc:Nat
 PA:Option Addr
 pc:Nat
 KA:Option Addr
 kc:Nat
 DA:Option Addr
 dc:Nat
def I0:Hk:=⟨0,0,0,0,0,0,0,0⟩
def Bd:BL:=⟨0,0,true⟩
def Hm (w:tyW)(A:tyA)(l:List Hk):Prop:= ∀i,i<l.length->∃b off,A=some ⟨b,off,none⟩/\
 (V w b (off+i*8) (O (l.getD i I0).kind)/\V w b (off+i*8+1) (O (l.getD i I0).AW)/\V w b (off+i*8+2) (O (l.getD i I0).mode)/\V w b (off+i*8+3) (O (l.getD i I0).room))/\
 V w b (off+i*8+4) (O (l.getD i I0).arg)/\V w b (off+i*8+5) (O (l.getD i I0).writer)/\V w b (off+i*8+6) (O (l.getD i I0).reader)/\V w b (off+i*8+7) (O (l.getD i I0).top)
def Lm (w:tyW)(A:tyA)(l:List (List CD)):Prop:= ∀i,i<l.length->∃b off A' c',A=some ⟨b,off,none⟩/\V w b (off+i) (AR A' (l.getD i []).length c')/\LQ w A' (l.getD i [])/\((l.getD i []).length<=c'/\(l.getD i []).length<=1000000/\c'<=9223372036854775807/\(A'=none->c'=0))
def Fg (w:tyW)(A:tyA)(l:List BL):Prop:= ∀i,i<l.length->∃b off,A=some ⟨b,off,none⟩/\
 V w b (off+i*3) (O (l.getD i Bd).thread)/\V w b (off+i*3+1) (O (l.getD i Bd).times)/\V w b (off+i*3+2) (.bool (l.getD i Bd).halt)
theorem LQ.up{w w':tyW}{l:List CD}(h:LQ w A l)(u:Up w w'):LQ w' A l:=λi hi=>by
 obtain⟨b,off,e,h0,h1,h2⟩:=h i hi;exact⟨b,off,e,(u.cell (AJ h0)).trans h0,(u.cell (AJ h1)).trans h1,(u.cell (AJ h2)).trans h2⟩
theorem Hm.up{w w':tyW}{l:List Hk}(h:Hm w A l)(u:Up w w'):Hm w' A l:=λi hi=>by
 obtain⟨b,off,e,⟨h0,h1,h2,h3⟩,h4,h5,h6,h7⟩:=h i hi;have hl:=AJ h0;exact⟨b,off,e,⟨(u.cell hl).trans h0,(u.cell hl).trans h1,(u.cell hl).trans h2,(u.cell hl).trans h3⟩,(u.cell hl).trans h4,(u.cell hl).trans h5,(u.cell hl).trans h6,(u.cell hl).trans h7⟩
theorem Lm.up{w w':tyW}{l:List (List CD)}(h:Lm w A l)(u:Up w w'):Lm w' A l:=λi hi=>by
 obtain⟨b,off,A',c',e,h0,h1,h2⟩:=h i hi;exact⟨b,off,A',c',e,(u.cell (AJ h0)).trans h0,h1.up u,h2⟩
theorem Fg.up{w w':tyW}{l:List BL}(h:Fg w A l)(u:Up w w'):Fg w' A l:=λi hi=>by
 obtain⟨b,off,e,h0,h1,h2⟩:=h i hi;exact⟨b,off,e,(u.cell (AJ h0)).trans h0,(u.cell (AJ h1)).trans h1,(u.cell (AJ h2)).trans h2⟩
structure EF (w:tyW)(sc:MN)(a:V4):Prop where
 th:Hm w a.TA sc.things
 pr:Lm w a.PA sc.AH
 pk:Fg w a.KA sc.picks
 dr:Row w a.DA sc.draws.length (Bl sc.draws)
 dn:(a.DA=none->a.dc=0)/\sc.draws.length<=a.dc/\a.dc<=9223372036854775807
theorem EF.up{w w':tyW}{sc:MN}{a:V4}(h:EF w sc a)(u:Up w w'):EF w' sc a:=⟨h.th.up u,h.pr.up u,h.pk.up u,h.dr.up u,h.dn⟩
def FW (sc:MN)(a:V4):Array Value:= #[.slice a.TA sc.things.length a.tc,.slice a.PA sc.AH.length a.pc,.slice a.KA sc.picks.length a.kc,.slice a.DA sc.draws.length a.dc]
def B3:List BL->Int
 |[]=>0
 |p::l=>p.times+B3 l
structure XK (sc:MN):Prop where
 n:1<=sc.AH.length/\sc.AH.length<=8
 t:sc.things.length<=8
 k:sc.picks.length<=400
 d:sc.draws.length<=64
 pl:∀i,i<sc.AH.length->(sc.AH.getD i []).length<=24/\∀j,j<(sc.AH.getD i []).length->OZ ((sc.AH.getD i []).getD j (0,0,0))
 pk:∀i,i<sc.picks.length->DT sc.AH.length (sc.picks.getD i Bd)
 dr:∀i,i<sc.draws.length->0<=sc.draws.getD i 0/\sc.draws.getD i 0<=1073741823
 th:∀i,i<sc.things.length->Hv (sc.things.getD i I0)
 st:B3 sc.picks<=4000
theorem Gm(l:List BL)(h:i<l.length):B3 (l.take (i+1))=B3 (l.take i)+(l.getD i Bd).times:=by
 induction l generalizing i with
 |nil=>simp at h
 |cons p l ih=>
  cases i with
  |zero=>simp[B3]
  |succ i=>
   rw[aE,aE];show p.times+B3 (l.take (i+1))=p.times+B3 (l.take i)+_;rw[ih (Cw h)];simp;omega
theorem Tc{n:tyN}{l:List BL}(h:∀i,i<l.length->DT n (l.getD i Bd))(i:tyN):i<=l.length->0<=B3 (l.take i)/\B3 (l.take i)<=255*i:=by
 induction i with
 |zero=>intro _;simp[B3]
 |succ i ih=>
  intro hi;have:=ih J;rw[Gm l J];rcases(h i J).2 with⟨_,h2⟩|⟨_,h2,h3⟩<;>omega
structure G2 (w wr:tyW)(cs:Array Value):Prop where
 up:Up (w.alloc (Y cs 27)) wr
theorem G2.go{w wr w':tyW}(h:G2 w wr cs)(u:Up wr w'):G2 w w' cs:=⟨h.up.trans u⟩
theorem G2.w{w wr:tyW}(h:G2 w wr cs):Up w wr:=((AV w).alloc _).trans h.up
theorem G2.cell{w wr:tyW}(h:G2 w wr cs)(i:tyN):wr.cell? (aD w i)=cs[i]?:=by
 have hb:=Ah w (Y cs 27);exact Ar _ _ i _ _ _ ((h.up.block _ (gE hb).1).trans hb)
theorem jy{sc:MN}{a:V4}(w:tyW)(hs:EF w sc a)(hok:XK sc):Calls Tryz.prog 74 #[.agg #[AR a.TA sc.things.length a.tc,AR a.PA sc.AH.length a.pc,AR a.KA sc.picks.length a.kc,AR a.DA sc.draws.length a.dc]] w λe w'=>e=BA (O (B3 sc.picks))/\Up w w':=by
 have HB0:Hid (G2 w (w.alloc (Y (FW sc a) 27)) (FW sc a)):=I ⟨AV _⟩;have HS:=I hs;have rz:=I (λi=>Tc hok.pk i);have xU:=I (λi (h:i<sc.picks.length)=>Gm sc.picks h);have SK:=I (λi (h:i<sc.picks.length)=>(hok.pk i h).2);have HT:=I (show B3 (sc.picks.take sc.picks.length)=B3 sc.picks by rw[IR]);have HL:=I hok.k;have c2:=HB0.cell 2;unfold FW at HB0 c2;simp only[Iv,Is,I6]at c2;clear hs hok;go_enter Tryz.func74,Tryz.ntmps74;go_wp2_with fail
 go_loopw[3,9] (λs x wr=> ∃i:Nat,i<=sc.picks.length/\x=O i/\s=O (B3 (sc.picks.take i))/\Hid (Up w wr)) (λ_ x _=>sc.picks.length-(intOf x).toNat)
 case atStart=>exact⟨0,J,rfl,rfl,I HB0.w⟩
 case round=>
  obtain⟨i,hi,rfl,rfl,HV⟩:=hrel;by_cases hlt:i<sc.picks.length
  .have hii:(i:tyI)<sc.picks.length:=J;have hi0:(0:tyI)<=i:=J;obtain⟨b,off,eA,x0,x1,x2⟩:=(HS.up HV).pk i hlt;have hst:=xU i hlt;have hn0:=rz i hi;have hpk:=SK i hlt;have hle:=HL.out;generalize B3 (sc.picks.take i)=T at*;generalize sc.picks.getD i Bd=p at*;obtain⟨pt,pk,ph⟩:=p;dsimp only at x0 x1 x2 hst hpk;have hp2:0<=pk/\pk<=255:=by rcases hpk with⟨_,h⟩|⟨_,h,h2⟩<;>omega
   have e1:max pk 0=pk:=J;have e2:min pk 1048576=pk:=J;have hi4:(i:tyI)<400:=J;have e3:wrap64 (T+pk)=T+pk:=IntWalk.wrap64_in _ J;have e4:min (T+pk) 1048576=T+pk:=J;rw[eA];have IK:=I (HV.trans ((AV wr).alloc (Y #[pt,pk,ph] 68)));have hb:=Ah wr (Y #[pt,pk,ph] 68);have y1:=cI hb 1;have HX:=I (And.intro hst (And.intro hlt hi));clear hst hn0 hpk hle hlt hp2 hb
   go_wp2
   go_roundw
   case rel=>exact⟨i+1,HX.2.1,by first|rfl|go_num,by rw[HX.1],IK⟩
   case measure=>have:=HX.out.2.1;simp[intOf];omega
  .have hie:i=sc.picks.length:=J;subst hie;have hnl:¬((sc.picks.length:tyI)<sc.picks.length):=J;have Yv:=I HV.out;clear HV
   go_wp2
   go_ret;exact⟨by first|rfl|rw[HT],Yv⟩
end
section
structure SAt (a:V4)(sc:MN)
def gQ (a:V4)(sc:MN):SAt a sc:=⟨⟩
instance zDb {a sc}:CoeOut (SAt a sc) (Array Value):=⟨λ_=> #[AR a.TA sc.things.length a.tc,AR a.PA sc.AH.length a.pc,AR a.KA sc.picks.length a.kc,AR a.DA sc.draws.length a.dc]⟩
end
section
open Go.ChangeShapes Go.WideShapes Go.ChangeAt Go.RowKit Go.Deep
section
variable {H:Type}{enc:TypeId×Value->H}{P:Program}{w:tyW}
theorem dN{t:TypeId}{fuel:tyN}{cs:List Value}{x:DataW H×List MemPlace}(ht:P.underlying t=some (.slice e))(he:P.underlying e=some (.int .i64))(hC:P.cellsOf e=1)(h:DataW.trod enc P w 0 (λ_=>true) true fuel t cs=some x):
  ∃(A:tyA) (l:tyL) (c:tyN),cs=[.slice A l.length c]/\Row w A l.length (Bl l):=by
 rcases open_slice1 ht hC h with⟨rfl,_⟩|⟨a,len,cap,m,n,AF,D,Pl,rfl,_,hl,hm,hmm,_,hx⟩
 .exact⟨none,[],0,rfl,λk hk=>absurd hk (Uu k)⟩
 .simp only[Ke]at hmm;subst hmm
  have hcell:∀i,i<m->∃p:Int,w.cell? (a.add i)=SY p:=λi hi=>by
   obtain⟨h1,h2⟩:=hx i hi;obtain⟨p,e1,_,_⟩:=WF he h2;simp only[Q8,P9]at e1;rw[e1]at h1;exact⟨p,h1⟩
  obtain⟨p,hp⟩:∃p:Nat->Int,∀i,i<m->w.cell? (a.add i)=SY (O (p i)):=
   ⟨λi=>if h:i<m then(hcell i h).choose else 0,λi him=>by simpa only[IG him]using(hcell i him).choose_spec⟩
  have hlen:((List.range len).map p).length=len:=Az;refine⟨some a,(List.range len).map p,m,by rw[hlen],?_⟩;rw[hlen];intro k hk;have h0:=hp k J;obtain⟨b,off,spot⟩:=a;have hspot:spot=none:=by simpa[Addr.add]using lU (hp 0 J)
  subst hspot;have e:((List.range len).map p).getD k 0=p k:=by rw[gD,BY,Qp hk];rfl
  refine⟨b,off,rfl,?_⟩;unfold Bl;rw[e,<-JC];exact h0
theorem lT{t:TypeId}{f0 f1 f2:Field}{fuel:tyN}{cs:List Value}{x:DataW H×List MemPlace}(ht:P.underlying t=some (.slice e))(he:P.underlying e=some (.struct #[f0,f1,f2]))(hC:P.cellsOf e=3)
  (o0:f0.offset=0) (o1:f1.offset=1) (o2:f2.offset=2) (k0:P.cellsOf f0.type=1) (k1:P.cellsOf f1.type=1) (k2:P.cellsOf f2.type=1)
  (u0:P.underlying f0.type=some (.int .i64)) (u1:P.underlying f1.type=some (.int .i64)) (u2:P.underlying f2.type=some .bool) (h:DataW.trod enc P w 0 (λ_=>true) true fuel t cs=some x):
  ∃(A:tyA) (l:List BL) (c:tyN),cs=[.slice A l.length c]/\Fg w A l:=by
 rcases open_slice ht h with⟨rfl,_⟩|⟨a,len,cap,m,n0,D,Pl,rfl,_,hl,hm,hmm,_,hi⟩
 .exact⟨none,[],0,rfl,λk hk=>absurd hk (Uu k)⟩
 .simp only[Ke]at hmm;subst hmm
  have hcell:∀i,i<m->∃p:BL,w.cell? (a.add (i*3))=SY p.thread/\w.cell? (a.add (i*3+1))=SY p.times/\w.cell? (a.add (i*3+2))=some (.bool p.halt):=by
   intro i him;obtain⟨cs',hc,ht'⟩:=hi i him;rw[hC]at hc;obtain⟨xs,n,_,_,_,hxl,hfs⟩:=DataW.trod_struct he ht';obtain⟨_,hcl,hat⟩:=World.cells?_some hc
   match cs',hcl,xs,hxl with
   |[q0,q1,q2],_,[y0,y1,y2],_=>
   have ht0:=hfs 0 f0 rfl;have ht1:=hfs 1 f1 rfl;have ht2:=hfs 2 f2 rfl;rw[o0,k0]at ht0;rw[o1,k1]at ht1;rw[o2,k2]at ht2;simp only[List.drop_zero,List.drop_succ_cons,aE,kY,Gc,Kk]at ht0 ht1 ht2;obtain⟨x0,e0,_,_⟩:=WF u0 ht0;obtain⟨x1,e1,_,_⟩:=WF u1 ht1;obtain⟨x2,e2,_⟩:=DataW.trod_bool u2 ht2;simp only[Q8,P9]at e0 e1 e2;subst e0 e1 e2;have hc0:=hat 0 AQ;have hc1:=hat 1 AQ;have hc2:=hat 2 AQ;rw[add_add]at hc0 hc1 hc2;exact⟨⟨x0,x1,x2⟩,hc0,hc1,hc2⟩
  obtain⟨p,hp⟩:∃p:Nat->BL,∀i,i<m->w.cell? (a.add (i*3))=SY (O (p i).thread)/\w.cell? (a.add (i*3+1))=SY (O (p i).times)/\w.cell? (a.add (i*3+2))=some (.bool (p i).halt):=
   ⟨λi=>if h:i<m then(hcell i h).choose else Bd,λi him=>by simpa only[IG him]using(hcell i him).choose_spec⟩
  have hlen:((List.range len).map p).length=len:=Az;refine⟨some a,(List.range len).map p,m,by rw[hlen],?_⟩;intro k hk;rw[hlen]at hk;obtain⟨h0,h1,h2⟩:=hp k J;obtain⟨b,off,spot⟩:=a;have hspot:spot=none:=by simpa[Addr.add]using lU (hp 0 J).1
  subst hspot;have e:((List.range len).map p).getD k Bd=p k:=by rw[gD,BY,Qp hk];rfl
  rw[e];exact⟨b,off,rfl,by rw[<-JC];exact h0,by rw[Nat.add_assoc,<-JC];exact h1,by rw[Nat.add_assoc,<-JC];exact h2⟩
end
end
section
open Go.RowKit
structure Alt (M:MD)(AH:List (List CD))(mine:tyI)(acq:Nat->Op Int)(rel:Nat->Op Unit):Prop where
 hm:0<=mine/\mine<32768
 call:∀t i,t<AH.length->i<(AH.getD t []).length->M.P t (AN AH t i)=if i%2=0 then IZ (I3 mine (acq t))else IZ (Iy mine (rel t))
 ka:∀t,(acq t).keeps mine
 kr:∀t,(rel t).keeps mine
section
variable {M:MD}{AH:List (List CD)}{H:List Au}{C:Nat->List GC}{mine:tyI}{acq:Nat->Op Int}{rel:Nat->Op Unit}
def lM (C:Nat->List GC)(t q:tyN):Prop:= ∃i c r v,i%2=0/\(C t)[i]?=some c/\c.res=some (r,0,v)/\r<q/\∀c',(C t)[i+1]?=some c'->q<=c'.p0
end
abbrev Sv:=D6×CD
theorem jd{A:Au}{e:D6}(h:SX A=some e):e.thread=A.t/\e.call=A.i:=by
 unfold SX at h;cases hw:A.w<;>rw[hw]at h<;>cases h<;>exact⟨rfl,rfl⟩
section
variable {M:MD}{AH:List (List CD)}{H:List Au}{C:Nat->List GC}{mine:tyI}{acq:Nat->Op Int}{rel:Nat->Op Unit}
theorem lM.on(hL:CC M AH H C)(ht:t<AH.length){A:Au}(hA:H[q]?=some A)(h:lM C t q)(hn:¬(A.t=t/\A.i%2=1/\A.w= .call)):lM C t (q+1):=by
 obtain⟨i,c,r,v,h1,h2,h3,h4,h5⟩:=h;refine⟨i,c,r,v,h1,h2,h3,J,λc' hc'=>?_⟩;have:=h5 c' hc';rcases CR q c'.p0 with h6|h6
 .exact h6
 .exfalso;obtain⟨now,h7⟩:=(hL.call t ht (i+1) c' hc').aO;rw[show c'.p0=q by omega,hA]at h7;cases h7
  exact hn ⟨rfl,by show(i+1)%2=1;omega,rfl⟩
end
def AAp:Sv:=(⟨0,0,0,0,0,0,0⟩,0,0,0)
structure qx (w:tyW)(b o:tyN)(a:Sv):Prop where
 c0:V w b o a.1.at'
 c1:V w b (o+1) a.1.kind
 c2:V w b (o+2) a.1.thread
 c3:V w b (o+3) a.1.call
 c4:V w b (o+4) a.1.val
 c5:V w b (o+5) a.1.err
 c6:V w b (o+6) a.1.YU
 c7:V w b (o+7) a.2.1
 c8:V w b (o+8) a.2.2.1
 c9:V w b (o+9) a.2.2.2
theorem qx.up{w w':tyW}{o:tyN}{a:Sv}(h:qx w b o a)(u:Up w w'):qx w' b o a:=by
 have hl:=AJ h.c0;exact⟨(u.cell hl).trans h.c0,(u.cell hl).trans h.c1,(u.cell hl).trans h.c2,(u.cell hl).trans h.c3,(u.cell hl).trans h.c4,(u.cell hl).trans h.c5,(u.cell hl).trans h.c6,(u.cell hl).trans h.c7,(u.cell hl).trans h.c8,(u.cell hl).trans h.c9⟩
def Ud (w:tyW)(A:tyA)(l:List Sv):Prop:= ∀i,i<l.length->∃b off,A=some ⟨b,off,none⟩/\qx w b (off+i*10) (l.getD i AAp)
theorem Ud.up{w w':tyW}{l:List Sv}(h:Ud w A l)(u:Up w w'):Ud w' A l:=λi hi=>by
 obtain⟨b,off,e,h1⟩:=h i hi;exact⟨b,off,e,h1.up u⟩
theorem flat_get{α:Type}(f:α->List Value)(s:tyN)(d:α):∀(l:List α) (i j:tyN),(∀a,(f a).length=s)->i<l.length->j<s->(l.flatMap f)[i*s+j]?=(f (l.getD i d))[j]?
 |[],i,j,_,h,_=>by simp at h
 |a::l,i,j,hf,hi,hj=>by
  rw[It];cases i with
  |zero=>
   rw[RR,Dw,IC (by rw[hf];exact hj)];rfl
  |succ i=>
   rw[Gb (by rw[hf,mN];omega),hf,show(i+1)*s+j-s=i*s+j by rw[mN];omega];exact flat_get f s d l i j hf (Cw hi) hj
theorem D1{α:Type}{w:tyW}{B:tyN}{s:tyN}{v:tyV}{l:List α}{f:α->List Value}(d:α)(h:w.ownsRow B e s v l.length (l.flatMap f))(hf:∀a,(f a).length=s)(hi:i<l.length):
  ∃b cap,v=BG b 0 l.length cap/\B<=b/\∀j,j<s->w.cell? (aD b (0+i*s+j))=(f (l.getD i d))[j]?:=by
 rcases h.2 with⟨rfl,e0⟩|⟨g,cap,cur,rfl,hg,hh,hcap,hmax,hsz2,hcells⟩
 .omega
 .refine⟨g,cap,rfl,hg,λj hj=>?_⟩
  have hlt:i*s+j<l.length*s:=by
   have:(i+1)*s<=l.length*s:=MO s hi;rw[mN]at this;omega
  rw[Dw,Ar w g (i*s+j) _ _ _ hh,<-flat_get f s d l i j hf hi hj,<-hcells,Us,AK hlt];simp
def En:D6:=⟨0,0,0,0,0,0,0⟩
structure Ev1 (w:tyW)(b o:tyN)(e:D6):Prop where
 c0:V w b o e.at'
 c1:V w b (o+1) e.kind
 c2:V w b (o+2) e.thread
 c3:V w b (o+3) e.call
 c4:V w b (o+4) e.val
 c5:V w b (o+5) e.err
 c6:V w b (o+6) e.YU
theorem Ev1.up{w w':tyW}{o:tyN}{e:D6}(h:Ev1 w b o e)(u:Up w w'):Ev1 w' b o e:=by
 have hl:=AJ h.c0;exact⟨(u.cell hl).trans h.c0,(u.cell hl).trans h.c1,(u.cell hl).trans h.c2,(u.cell hl).trans h.c3,(u.cell hl).trans h.c4,(u.cell hl).trans h.c5,(u.cell hl).trans h.c6⟩
def NZ (w:tyW)(A:tyA)(l:List D6):Prop:= ∀i,i<l.length->∃b off,A=some ⟨b,off,none⟩/\Ev1 w b (off+i*7) (l.getD i En)
theorem NZ.up{w w':tyW}{l:List D6}(h:NZ w A l)(u:Up w w'):NZ w' A l:=λi hi=>by
 obtain⟨b,off,e,h1⟩:=h i hi;exact⟨b,off,e,h1.up u⟩
theorem CU.at'{w:tyW}{l:List D6}(h:CU w q lv l):∃A c,lv=AR A l.length c/\NZ w A l:=by
 obtain⟨A,c,rfl,_⟩:=Af h;refine⟨A,c,rfl,λi hi=>?_⟩;obtain⟨b,cap,e,_,hc⟩:=D1 En h (λ_=>rfl) hi;cases e
 exact⟨b,0,rfl,hc 0 AQ,hc 1 AQ,hc 2 AQ,hc 3 AQ,hc 4 AQ,hc 5 AQ,hc 6 AQ⟩
def ut (a:Sv):List Value:=[.int .i64 a.1.at',.int .i64 a.1.kind,.int .i64 a.1.thread,.int .i64 a.1.call,.int .i64 a.1.val,.int .i64 a.1.err,.int .i64 a.1.YU,.int .i64 a.2.1,.int .i64 a.2.2.1,.int .i64 a.2.2.2]
def Rf (w:tyW)(q:tyN)(lv:tyV)(l:List Sv):Prop:=w.ownsRow q 94 10 lv l.length (l.flatMap ut)
theorem Rf.at'{w:tyW}{l:List Sv}(h:Rf w q lv l):∃A c,lv=AR A l.length c/\Ud w A l:=by
 obtain⟨A,c,rfl,_⟩:=Af h;refine⟨A,c,rfl,λi hi=>?_⟩;obtain⟨b,cap,e,_,hc⟩:=D1 AAp h (λ_=>rfl) hi;cases e
 exact⟨b,0,rfl,hc 0 AQ,hc 1 AQ,hc 2 AQ,hc 3 AQ,hc 4 AQ,hc 5 AQ,hc 6 AQ,hc 7 AQ,hc 8 AQ,hc 9 AQ⟩
def tK (e:D6):Array Value:= #[.int .i64 e.at',.int .i64 e.kind,.int .i64 e.thread,.int .i64 e.call,.int .i64 e.val,.int .i64 e.err,.int .i64 e.YU]
theorem Zb(w:tyW)(e:D6)(t:TypeId):Ev1 (w.alloc (Y (tK e) t)) w.heap.size 0 e:=by
 have hb:=Ah w (Y (tK e) t);exact⟨Ar _ _ 0 _ _ _ hb,Ar _ _ 1 _ _ _ hb,Ar _ _ 2 _ _ _ hb,Ar _ _ 3 _ _ _ hb,Ar _ _ 4 _ _ _ hb,Ar _ _ 5 _ _ _ hb,Ar _ _ 6 _ _ _ hb⟩
structure EvIn (AH:List (List CD))(obj:tyI)(e:D6)(t c:tyN):Prop where
 ht:e.thread=t
 hc:e.call=c
 tn:t<AH.length
 cn:c<(AH.getD t []).length
 obj:((AH.getD t []).getD c (0,0,0)).2.1=obj
structure EvT (AH:List (List CD))(e:D6)(t c:tyN):Prop where
 ht:e.thread=t
 hc:e.call=c
 tn:t<AH.length
theorem Rf.push{w:tyW}{j:tyN}{l:List Sv}{e:Sv}(hj:l.length=j)(h:w.ownsRow q 94 10 lv (j+1) (l.flatMap ut++ut e)):Rf w q lv (l++[e]):=by
 unfold Rf;rw[Gx,Y8,hj];simpa using h
theorem AT{w:tyW}{t:TypeId}{fr:Nat×Nat}(h:w.heap[b]?=some (.cells cs t fr))(j:tyN)(u:tyV):(w.setCell (aD b j) u).heap[b]?=some (.cells (cs.setIfInBounds j u) t fr):=by
 have hlt:=(gE h).1;have h':w.heap[b]= .cells cs t fr:=by simpa[cj hlt]using h
 show(w.heap.modify b _)[b]?=_;rw[cj (Cw hlt),Array.getElem_modify_self,h'];rfl
theorem GO{P:Program}{fn:Func}{p u:Tmp}{ty:TypeId}(h:fn.results= #[.cell p ty,.tmp u])(tmps:Array Value)(w:tyW)(g:tyN)(t:TypeId)(cs:Array Value)(fr:Nat×Nat)(d:TypeDesc)
  (hp:tmps.getD p undef=pT g) (hg:w.heap[g]?=some (.cells cs t fr))
  (hu:P.underlying ty=some d) (hd:(match d with| .struct _| .array _ _=>true|_=>false)=true) (hi:(P.info? ty).map (·.size)=some cs.size):
  (results fn tmps).run P w= .ok (.tuple #[.agg cs,tmps.getD u undef]) w:=by
 rw[results_cell_tmp h,hp];simp[asAddr,Result.andThen,run_loadVar_row w g t ty cs fr d hg hu hd hi]
def stripL (s:SD):List Value:=[.int .i64 s.many,.int .i64 s.kind,.int .i64 s.top]
def BK (w:tyW)(q:tyN)(lv:tyV)(l:List SD):Prop:=w.ownsRow q 152 3 lv l.length (l.flatMap stripL)
theorem BK.at'{w:tyW}(h:BK w q lv l):∃A c,lv=AR A l.length c/\Dx w A l:=by
 obtain⟨A,c,rfl,_⟩:=Af h;refine⟨A,c,rfl,λi hi=>?_⟩;obtain⟨b,cap,e,_,hc⟩:=D1 Fo h (λ_=>rfl) hi;cases e
 exact⟨b,0,rfl,hc 0 AQ,hc 1 AQ,hc 2 AQ⟩
theorem BK.up{w w':tyW}(h:BK w q lv l)(u:Up w w'):BK w' q lv l:=AS h λk e=>u.block k (CX h k e).2
theorem qX(w:tyW)(l:List SD)(hl:l.length<=1000):BK (w.alloc (Y (l.flatMap stripL).toArray 152)) w.heap.size (BG w 0 l.length l.length) l:=by
 have hs:∀l:List SD,(l.flatMap stripL).length=l.length*3:=λl=>by
  induction l with
  |nil=>rfl
  |cons a l ih=>rw[It,Gx,ih];simp[stripL];omega
 exact⟨hs l,.inr ⟨w.heap.size,l.length,(l.flatMap stripL).toArray,rfl,A9 _,Ah w _,A9 _,by unfold maxLen;omega,by simp[hs],by rw[Ni];simp[hs]⟩⟩
def C8:List SD->Int
 |[]=>0
 |s::l=>s.many+C8 l
theorem KG(l:List SD)(h:i<l.length):C8 (l.take (i+1))=C8 (l.take i)+(l.getD i Fo).many:=by
 induction l generalizing i with
 |nil=>simp at h
 |cons p l ih=>
  cases i with
  |zero=>simp[C8]
  |succ i=>
   rw[aE,aE];show p.many+C8 (l.take (i+1))=p.many+C8 (l.take i)+_;rw[ih (Cw h)];simp;omega
theorem Lc(h:∀i,i<l.length->0<=(l.getD i Fo).many/\(l.getD i Fo).many<=1000)(i:tyN):i<=l.length->0<=C8 (l.take i)/\C8 (l.take i)<=1000*i:=by
 induction i with
 |zero=>intro _;simp[C8]
 |succ i ih=>
  intro hi;have:=ih J;have:=h i J;rw[KG l J];omega
theorem Sf(l:List SD)(A:tyA)(c:tyN)(w:tyW)(hl:l.length<=1000)(hr:Dx w A l)(hm:∀i,i<l.length->0<=(l.getD i Fo).many/\(l.getD i Fo).many<=1000):
  Calls Tryz.prog 330 #[AR A l.length c] w λe w'=>e=BA (O (C8 l))/\Up w w':=by
 have HR:=I hr;have HI:=I (λi h=>Lc hm i h);have HM:=I hm;have xU:=I (λi (h:i<l.length)=>KG l h);have HT:=I (show C8 (l.take l.length)=C8 l by rw[IR]);have OH:=I (AV w);clear hr hm;go_enter Tryz.func330,Tryz.ntmps330;go_wp2_with fail
 go_loopw[3,8] (λs x wr=> ∃i:Nat,i<=l.length/\x=O i/\s=O (C8 (l.take i))/\Hid (Up w wr)) (λ_ x _=>l.length-(intOf x).toNat)
 case atStart=>exact⟨0,J,rfl,rfl,OH⟩
 case round=>
  obtain⟨i,hi,rfl,rfl,HV⟩:=hrel;by_cases hlt:i<l.length
  .have hii:(i:tyI)<l.length:=J;have hi0:(0:tyI)<=i:=J;have hi4:(i:tyI)<1000:=J;obtain⟨b,off,eA,x0,x1,x2⟩:=(HR.up HV) i hlt;have hst:=xU i hlt;have hn0:=HI i hi;have hpk:=HM i hlt;generalize C8 (l.take i)=T at*;generalize l.getD i Fo=p at*;obtain⟨pm,pk,pt⟩:=p;dsimp only at x0 x1 x2 hst hpk;have e3:wrap64 (T+pm)=T+pm:=IntWalk.wrap64_in _ J;rw[eA];have IK:=I (HV.trans ((AV wr).alloc (Y #[pm,pk,pt] 152)));have hb:=Ah wr (Y #[pm,pk,pt] 152);have y0:=cI hb 0;have HX:=I (And.intro hst (And.intro hlt hi));clear hst hn0 hpk hlt hb
   go_wp2
   go_roundw
   case rel=>exact⟨i+1,HX.2.1,by first|rfl|go_num,by rw[HX.1,e3],IK⟩
   case measure=>have:=HX.out.2.1;simp[intOf];omega
  .have hie:i=l.length:=J;subst hie;have hnl:¬((l.length:tyI)<l.length):=J;have Yv:=I HV.out;clear HV
   go_wp2
   go_ret;exact⟨by first|rfl|rw[HT],Yv⟩
theorem NV(l:List SD)(A:tyA)(c:tyN)(w:tyW)(hl:l.length<=1000)(hr:Dx w A l)(hm:∀i,i<l.length->0<=(l.getD i Fo).many/\(l.getD i Fo).many<=1000):
  Calls Tryz.prog 76 #[AR A l.length c] w λe w'=>e=BA (O (C8 l))/\Up w w':=by
 have HR:=I hr;have HI:=I (λi h=>Lc hm i h);have HM:=I hm;have xU:=I (λi (h:i<l.length)=>KG l h);have HT:=I (show C8 (l.take l.length)=C8 l by rw[IR]);have OH:=I (AV w);clear hr hm;go_enter Tryz.func76,Tryz.ntmps76;go_wp2_with fail
 go_loopw[3,8] (λs x wr=> ∃i:Nat,i<=l.length/\x=O i/\s=O (C8 (l.take i))/\Hid (Up w wr)) (λ_ x _=>l.length-(intOf x).toNat)
 case atStart=>exact⟨0,J,rfl,rfl,OH⟩
 case round=>
  obtain⟨i,hi,rfl,rfl,HV⟩:=hrel;by_cases hlt:i<l.length
  .have hii:(i:tyI)<l.length:=J;have hi0:(0:tyI)<=i:=J;have hi4:(i:tyI)<1000:=J;obtain⟨b,off,eA,x0,x1,x2⟩:=(HR.up HV) i hlt;have hst:=xU i hlt;have hn0:=HI i hi;have hpk:=HM i hlt;generalize C8 (l.take i)=T at*;generalize l.getD i Fo=p at*;obtain⟨pm,pk,pt⟩:=p;dsimp only at x0 x1 x2 hst hpk;have e3:wrap64 (T+pm)=T+pm:=IntWalk.wrap64_in _ J;rw[eA];have IK:=I (HV.trans ((AV wr).alloc (Y #[pm,pk,pt] 152)));have hb:=Ah wr (Y #[pm,pk,pt] 152);have y0:=cI hb 0;have HX:=I (And.intro hst (And.intro hlt hi));clear hst hn0 hpk hlt hb
   go_wp2
   go_roundw
   case rel=>exact⟨i+1,HX.2.1,by first|rfl|go_num,by rw[HX.1,e3],IK⟩
   case measure=>have:=HX.out.2.1;simp[intOf];omega
  .have hie:i=l.length:=J;subst hie;have hnl:¬((l.length:tyI)<l.length):=J;have Yv:=I HV.out;clear HV
   go_wp2
   go_ret;exact⟨by first|rfl|rw[HT],Yv⟩
end
end Go.Proofs.YtpodgcpkccpnfaaGreat
