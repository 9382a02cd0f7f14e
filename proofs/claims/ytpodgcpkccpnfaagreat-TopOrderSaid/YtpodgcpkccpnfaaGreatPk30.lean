import Derived.Test.YtpodgcpkccpnfaaGreatPk15
import Derived.Test.YtpodgcpkccpnfaaGreatPk29
set_option linter.unusedVariables false
set_option linter.unusedSimpArgs false
set_option maxRecDepth 20000
set_option maxHeartbeats 40000000
namespace Go.Proofs.YtpodgcpkccpnfaaGreat
variable{b k lo v:Int}{P:List (List CD)}{l:List Int}{Bj:List Value}{n zb:Nat}{t:TypeId}{pv:Value}{w w':World}
section
open Go.RowKit
theorem AAW{α β γ:Type}(o:Op α)(f:α->Op β)(h:β->Op γ):(o.bind f).bind h=o.bind λx=>(f x).bind h:=by
 induction o with
 |ret v=>rfl
 |ask a k ih=>exact DJ (Op.ask a) (vW ih)
 |get i k ih=>exact DJ (Op.get i) (vW ih)
 |set i v k ih=>exact DJ (Op.set i v) ih
 |note c k ih=>exact DJ (Op.note c) ih
 |live k ih=>exact DJ Op.live (vW ih)
def Ez (k:tyI):Int:=if k=2\/k=4 then 1 else 3
def gF (k:tyI)(n:tyN):P7:=⟨k,0,0,n,if k=7 then-1 else 0,if k=4\/k=5 then 1 else-1,Ez k⟩
def oMr (k:tyI)(t:tyN):Bool:=if k=4\/k=5 then decide (t=1)else true
def oMw (k:tyI)(t:tyN):Bool:=if k=7 then true else decide (t=0)
def oR (k:tyI)(t:tyN):Op RD:=if k=3 then IF 0 3 4 0 else if k=6 then XA 0 0 0 t else XQ 0
def oW (k v:tyI):Op RD:=if k=2 then .ask (2,0,CT v) λ_=> .ret (0,0)else if k=3 then YM 0 (Mn v.toNat)else if k=4 then qi 0 0 v else if k=6 then qJ 0 0 v else .ask (2,0,v) λ_=> .ret (0,0)
def oG (k:tyI)(n t:tyN):AD->Op Int:=if k=2 then R3 0 0 else if k=3 then RW 0 0 else if k=4 then Ix 0 0 else if k=5 then SR 0 0 else if k=6 then RX 0 0 n 0 3 t else aX 0 0 n 3 t
def oT (k:tyI)(t:tyN):CD->Op RD:=FH (oMr k t) (oMw k t) (oR k t) (oW k)
section
variable {k:tyI}{n t g B:tyN}{s:TS}{W:tyW}
theorem vz(hk:Ds k)(ht:t<n):oMr k t=PX (gF k n) t:=by
 rcases hk with rfl|rfl|rfl|rfl|rfl|rfl
 .rfl
 .rfl
 .show decide (t=1)=((t:tyI)==1);rw[dR];simp;omega
 .show decide (t=1)=((t:tyI)==1);rw[dR];simp;omega
 .show true=decide ((t:tyI)<n);simp;omega
 .show true=decide ((t:tyI)<n);simp;omega
theorem mT(hk:Ds k)(ht:t<n):oMw k t=Nb (gF k n) t:=by
 rcases hk with rfl|rfl|rfl|rfl|rfl|rfl
 iterate 5
  .show decide (t=0)=((t:tyI)==0);rw[dR];simp
 .show true=decide ((t:tyI)<n);simp;omega
theorem Wo{f:AD->Op Int}{o:Op Int}(hf:f (1,0,0)=o):(o.bind λx=>(.ret (0,x):Op RD)).BH s=((XQ 0).sub f).BH s:=by subst hf;rfl
theorem mD{f:AD->Op Int}{o:Op Int}(hf:f (2,0,v)=o):(o.bind λ_=>(.ret (0,0):Op RD)).BH s=((Op.ask (2,0,v) λ_=> .ret (0,0):Op RD).sub f).BH s:=by subst hf;rfl
theorem AFA(hk:Ds k)(hn:2<=n/\n<=3)(ht:t<n)(h:AX W g B s):Calls Tryz.prog (rdF k) (rwA k (pT g) (Gt (gF k n)) t []) W (Goes g B W (((oR k t).sub (oG k n t)).BH s) encI λx=>(.ret (0,x):Op RD)):=by
 rcases hk with rfl|rfl|rfl|rfl|rfl|rfl
 .exact Aw (Pq 2 0 0 n 0 (-1) 1 0 0 g B s W h) (Wo (f:=R3 0 0) rfl)
 .exact iA 3 0 0 n 0 (-1) 3 g B s W h AQ AQ AQ rfl
 .exact Aw (Ml 4 0 0 n 0 1 1 g B s W h AQ AQ AQ AQ) (Wo (f:=Ix 0 0) dL)
 .exact Aw (Rr 5 0 0 n 0 1 3 0 g B s W h AQ AQ AQ AQ) (Wo (f:=SR 0 0) rfl)
 .by_cases h0:t=0
  .subst h0;exact Aw (RS 6 0 0 (-1) 3 n 0 g B s W h J J AQ) rfl
  .show Calls _ _ _ _ (Goes g B W (((XA 0 0 0 t).sub (RX 0 0 n 0 3 t)).BH s) _ _);unfold XA;rw[AI h0];exact Aw (RZ 6 0 0 (-1) 3 n 0 t g B s W h J J J h0 AQ AQ AQ) (Wo (f:=RX 0 0 n 0 3 t) rfl)
 .exact Aw (iI 7 0 0 (-1) (-1) 3 0 n t g B s W h J ht AQ AQ) (Wo (f:=aX 0 0 n 3 t) rfl)
theorem AEx(hk:Ds k)(hn:2<=n/\n<=3)(ht:t<n)(hw:oMw k t=true)(hv:0<=v/\v<=Ez k)(h:AX W g B s):Calls Tryz.prog (wrF k) (rwA k (pT g) (Gt (gF k n)) t [v]) W (Goes g B W (((oW k v).sub (oG k n t)).BH s) Kf λ_=>(.ret (0,0):Op RD)):=by
 obtain⟨z,rfl⟩:∃z:Nat,v=z:=⟨v.toNat,J⟩;rcases hk with rfl|rfl|rfl|rfl|rfl|rfl
 .exact Aw (Pb 2 0 0 n 0 (-1) 1 0 z g B s W h) (mD (f:=R3 0 0) rfl)
 .exact Zc 3 0 0 n 0 (-1) 3 z g B s W h AQ AQ ⟨hv.2,AQ⟩ rfl
 .have h2:=Mo 4 0 0 n 0 1 1 z g B s W h AQ AQ AQ AQ;refine(Aw (R:=((oW 4 z).sub (oG 4 n t)).BH s) (k:=λ_=>(.ret (0,0):Op RD)) h2 ?_).mono λe w' q=>?_
  .unfold yk;show((if s.get 0=CT z then(.ret ():Op Unit)else _).bind _).BH s=((if s.get 0=CT z then(.ret (0,0):Op RD)else .ask (2,0,CT z) λ_=> .ret (0,0)).sub (Ix 0 0)).BH s;split
   .rfl
   .show _=((Ix 0 0 (2,0,CT z)).bind λ_=>(.ret (0,0):Op RD)).BH s;rw[cy,<-Wp]
  .exact q.imp (λq=>q) λ⟨x,s',e,q⟩=>⟨0,s',e,q⟩
 .exact Aw (Mg 5 0 0 n 0 1 3 0 z g B s W h AQ AQ AQ AQ) (mD (f:=SR 0 0) rfl)
 .have ht0:t=0:=by simpa[oMw]using hw
  subst ht0;have h2:=Qq 6 0 0 (-1) 3 z n 0 g B s W h J J AQ AQ ⟨J,hv.2,AQ⟩;rw[XC]at h2;refine Aw h2 ?_;rw[AAW];rfl
 .exact Aw (gw 7 0 0 (-1) (-1) 3 z 0 n t g B s W h J ht AQ AQ) (mD (f:=aX 0 0 n 3 t) rfl)
theorem AE4{o:GU}{x0 x1 x2:tyI}(hk:Ds k)(hn:2<=n/\n<=3)(ht:t<n)(ho:o.rg=gF k n)(hx:x0=15\/(x0=16/\0<=x2/\x2<=Ez k))(h:AX W g B s):
  Calls Tryz.prog (An x0.toNat).2.1 #[pT g,MG o,x2,t] W (AP encR g B W (((oT k t (x0,x1,x2)).sub (oG k n t)).BH s)):=by
 have ik:2<=k/\k<=7:=by unfold Ds at hk;omega
 rcases hx with rfl|⟨rfl,hx⟩
 .have e:(oT k t (15,x1,x2)).sub (oG k n t)=if PX o.rg t=true then(oR k t).sub (oG k n t)else .ret (9,0):=by
   have e0:oT k t (15,x1,x2)=if oMr k t=true then oR k t else .ret (9,0):=by
    unfold oT FH;rw[AI (show¬((15:tyI),x1,x2).1=16 by show¬(15:tyI)=16;decide)]
   rw[ho,<-vz hk ht,e0];split<;>rfl
  rw[e];refine eU o x2 t _ g B s W h J λ_ W' h'=>?_
  rw[ho];exact ff k 0 0 n _ _ _ t hk g B s W' h' λW2 h2=>AFA hk hn ht h2
 .have e:(oT k t (16,x1,x2)).sub (oG k n t)=if Nb o.rg t=true then(oW k x2).sub (oG k n t)else .ret (9,0):=by
   have e0:oT k t (16,x1,x2)=if oMw k t=true then oW k x2 else .ret (9,0):=by
    unfold oT FH;rw[AK (show((16:tyI),x1,x2).1=16 from rfl)]
   rw[ho,<-mT hk ht,e0];split<;>rfl
  rw[e];refine Z1 o x2 t _ g B s W h J (by rw[ho];exact ik) (by rw[ho];exact hx) λhm W' h'=>?_
  rw[ho]at hm|-;rw[<-mT hk ht]at hm;exact Zg k 0 0 n _ _ _ t x2 hk g B s W' h' λW2 h2=>AEx hk hn ht hm hx h2
end
def DZ (k:tyI)(n:tyN):List SD:=if k=2 then[⟨1,1,1⟩]else if k=3 then[⟨4,1,1⟩]else if k=4 then[⟨3,1,1⟩]else if k=5 then IU else if k=6 then EA (EC n)else EA (EC n*n)
def gV (k:tyI)(n:tyN):Nat:=if k=2 then 1 else if k=3 then 4 else if k=4 then 4 else if k=5 then 18 else if k=6 then 2+18*EC n else n*(2+18*EC n)
theorem BK.low{q q':tyN}{v:tyV}{l:List SD}(h:BK w q v l)(hq:q'<=q):BK w q' v l:=
 ⟨h.1,h.2.imp id λ⟨g,cap,cur,a1,a2,a3⟩=>⟨g,cap,cur,a1,DB hq a2,a3⟩⟩
def Q0 (l:List SD)(w:tyW)(e:Ending)(w':tyW):Prop:=(∃v,e=BA v/\BK w' w.heap.size v l)/\Up w w'
theorem Q0.one{e:Ending}{m:tyI}(h:e=BA (BG w 0 1 1)/\BR w' w #[m,O 1,O 1] 152/\Up w w'):Q0 [⟨m,1,1⟩] w e w':=⟨⟨_,h.1,Uc h.2.1⟩,h.2.2⟩
theorem M9(k b lo wr rd tp:tyI)(n:tyN)(w:tyW)(hk:Ds k)(hn:2<=n/\n<=8)(htp:k=3->tp=3):Calls Tryz.prog 100 #[.agg #[k,b,lo,n,wr,rd,tp]] w (Q0 (DZ k n) w):=by
 obtain⟨W,hW,HU,HS⟩:=LN w k b lo n wr rd tp;have H2:=I λW=>(Nz W).mono λe w' h=>Q0.one h
 have H3:=I λW=>show Calls _ _ _ W (Q0 [⟨4,1,1⟩] W)from YK W
 have H4:=I λW=>(PZ W).mono λe w' h=>Q0.one h
 have H5:=I λW=>show Calls _ _ _ W (Q0 IU W)from Pn W
 have H6:=I λW=>show Calls _ _ _ W (Q0 (EA (EC n)) W)from Pa n W J
 have H7:=I λW=>show Calls _ _ _ W (Q0 (EA (EC n*n)) W)from Xh n W hn
 obtain⟨⟨c0,c1,c2,c3⟩,c4,c5,c6⟩:=HS W (AV W);clear HS;rcases hk with rfl|rfl|rfl|rfl|rfl|rfl
 all_goals
  try obtain rfl:=htp rfl
  clear htp;go_enter Tryz.func100,Tryz.ntmps100;go_wp2_with fail
  first|refine(H2 _).mono ?_|refine(H3 _).mono ?_|refine(H4 _).mono ?_|refine(H5 _).mono ?_|refine(H6 _).mono ?_|refine(H7 _).mono ?_
  rintro e w2 ⟨⟨v,rfl,ho⟩,hu⟩;have HO:=I (And.intro (BK.low ho HU.size) (HU.trans hu));clear ho hu
  go_wp2
  go_ret;exact⟨⟨_,rfl,HO.1⟩,HO.2⟩
theorem We(n:tyN)(w:tyW)(hn:2<=n/\n<=8):Calls Tryz.prog 152 #[n] w λe w'=>e=BA (O ((n*(2+18*EC n):tyN):tyI))/\w'=w:=by
 have Sc:=I λW=>FK n W J
 have HB:=I λW=>Ku n W J
 have hm:n*(2+18*EC n)<=8*884:=LZ hn.2 (by have:=RB hn.2;omega);have y1:wrap64 ((n:tyI)*((2+18*EC n:tyN):tyI))=((n*(2+18*EC n):tyN):tyI):=by rw[<-Int.natCast_mul];exact IntWalk.wrap64_in _ J
 clear hm;generalize n*(2+18*EC n)=m at*;generalize((2+18*EC n:tyN):tyI)=x at*;go_enter Tryz.func152,Tryz.ntmps152;go_wp2_with fail;refine(Sc _).mono ?_;rintro e _ ⟨rfl,rfl⟩;go_wp2_with fail;refine(HB _).mono ?_;rintro e _ ⟨rfl,rfl⟩
 go_wp2
 go_ret;exact⟨by rw[y1];exact rfl,rfl⟩
theorem bW(w:tyW):Calls Tryz.prog 147 #[] w λe w'=>e=BA (O 1)/\w'=w:=by
 go_enter Tryz.func147,Tryz.ntmps147
 go_wp2
 go_ret;exact⟨rfl,rfl⟩
theorem kz(w:tyW):Calls Tryz.prog 149 #[] w λe w'=>e=BA (O 4)/\w'=w:=by
 go_enter Tryz.func149,Tryz.ntmps149
 go_wp2
 go_ret;exact⟨rfl,rfl⟩
theorem YS(w:tyW):Calls Tryz.prog 148 #[O 3] w λe w'=>e=BA (O 4)/\w'=w:=by
 have Y3:=I (λW=>Ls 3 W AQ);have H1:=I bW;go_enter Tryz.func148,Tryz.ntmps148;go_wp2_with fail;refine(Y3 _).mono ?_;rintro e _ ⟨rfl,rfl⟩;go_wp2_with fail;refine(H1 _).mono ?_;rintro e _ ⟨rfl,rfl⟩
 go_wp2
 go_ret;exact⟨rfl,rfl⟩
theorem NU(k b lo wr rd tp:tyI)(n:tyN)(w:tyW)(hk:Ds k)(hn:2<=n/\n<=8)(htp:k=3->tp=3):Calls Tryz.prog 105 #[.agg #[k,b,lo,n,wr,rd,tp]] w λe w'=>e=BA (O (gV k n))/\Up w w':=by
 obtain⟨W,hW,HU,HS⟩:=LN w k b lo n wr rd tp;have H2:=I bW;have H3:=I YS;have H4:=I kz;have H5:=I Pg;have H6:=I λW=>Ku n W J
 have H7:=I λW=>We n W hn
 obtain⟨⟨c0,c1,c2,c3⟩,c4,c5,c6⟩:=HS W (AV W);clear HS;rcases hk with rfl|rfl|rfl|rfl|rfl|rfl
 all_goals
  try obtain rfl:=htp rfl
  clear htp;go_enter Tryz.func105,Tryz.ntmps105;go_wp2_with fail
  first|refine(H2 _).mono ?_|refine(H3 _).mono ?_|refine(H4 _).mono ?_|refine(H5 _).mono ?_|refine(H6 _).mono ?_|refine(H7 _).mono ?_
  rintro e _ ⟨rfl,rfl⟩
  go_wp2
  go_ret;exact⟨rfl,HU⟩
theorem YT(k b lo wr rd tp:tyI)(n:tyN)(l:List SD)(w:tyW)(hl:l.length<=1000)(HST:∀W,Calls Tryz.prog 100 #[.agg #[k,b,lo,n,wr,rd,tp]] W (Q0 l W))(hm:∀i,i<l.length->0<=(l.getD i Fo).many/\(l.getD i Fo).many<=1000):
  Calls Tryz.prog 126 #[.agg #[k,b,lo,n,wr,rd,tp]] w λe w'=>e=BA (O (C8 l))/\Up w w':=by
 obtain⟨W,hW,HU,HS⟩:=LN w k b lo n wr rd tp;have HST:=I HST;obtain⟨⟨c0,c1,c2,c3⟩,c4,c5,c6⟩:=HS W (AV W);clear HS;have HI:=I (λi h=>Lc hm i h);have HM:=I hm;have xU:=I (λi (h:i<l.length)=>KG l h);have HT:=I (show C8 (l.take l.length)=C8 l by rw[IR]);clear hm;go_enter Tryz.func126,Tryz.ntmps126;go_wp2_with fail;refine(HST _).mono ?_;rintro e w1 ⟨⟨v,rfl,ho⟩,hu⟩;have OH:=I (HU.trans hu);obtain⟨A,c,rfl,hr⟩:=ho.at';have HR:=I hr;clear ho hu hr c0 c1 c2 c3 c4 c5 c6;go_wp2_with fail
 go_loopw[3,9] (λs x wz=> ∃i:Nat,i<=l.length/\x=O i/\s=O (C8 (l.take i))/\Hid (Up w1 wz)) (λ_ x _=>l.length-(intOf x).toNat)
 case atStart=>exact⟨0,J,rfl,rfl,I (AV _)⟩
 case round=>
  obtain⟨i,hi,rfl,rfl,HV⟩:=hrel;by_cases hlt:i<l.length
  .have hii:(i:tyI)<l.length:=J;have hi0:(0:tyI)<=i:=J;have hi4:(i:tyI)<1000:=J;obtain⟨b,off,eA,x0,x1,x2⟩:=(HR.up HV) i hlt;have hst:=xU i hlt;have hn0:=HI i hi;have hpk:=HM i hlt;generalize C8 (l.take i)=T at*;generalize l.getD i Fo=p at*;obtain⟨pm,pk,pt⟩:=p;dsimp only at x0 x1 x2 hst hpk;have e3:wrap64 (T+pm)=T+pm:=IntWalk.wrap64_in _ J;rw[eA];have IK:=I (HV.trans ((AV wr).alloc (Y #[pm,pk,pt] 152)));have hb:=Ah wr (Y #[pm,pk,pt] 152);have y0:=cI hb 0;have HX:=I (And.intro hst (And.intro hlt hi));clear hst hn0 hpk hlt hb
   go_wp2
   go_roundw
   case rel=>exact⟨i+1,HX.2.1,by first|rfl|go_num,by rw[HX.1,e3],IK⟩
   case measure=>have:=HX.out.2.1;simp[intOf];omega
  .have hie:i=l.length:=J;subst hie;have hnl:¬((l.length:tyI)<l.length):=J;have Yv:=I HV.out;clear HV
   go_wp2
   go_ret;exact⟨by first|rfl|rw[HT],OH.trans Yv⟩
end
section
open Go.RowKit Go.Shelf
theorem NK(hk:Ds k)(hn:n=2\/n=3):(DZ k n).length<=1000/\(∀i,i<(DZ k n).length->0<=((DZ k n).getD i Fo).many/\((DZ k n).getD i Fo).many<=1000)/\(0<=C8 (DZ k n)/\C8 (DZ k n)<=1000)/\gV k n<=1000:=by
 rcases hk with rfl|rfl|rfl|rfl|rfl|rfl<;>rcases hn with rfl|rfl<;>decide+kernel
theorem TP(m:tyI)(w:tyW)(hm:0<=m/\m<=1000):Calls Tryz.prog 125 #[(),m,O 32768] w λe w'=>e=BA true/\w'=w:=by
 have:=YO 0 m 32768 w AQ ⟨hm.1,J⟩ AQ;rwa[Fi (show 0+m<=32768 by omega)]at this
def Ki (k wr rd tp:tyI):Prop:=(k=2/\wr=0/\rd= -1/\tp=1)\/(k=3/\wr=0/\rd= -1/\tp=3)\/(k=4/\wr=0/\rd=1/\tp=1)\/(k=5/\wr=0/\rd=1/\tp=3)\/(k=6/\wr=0/\rd= -1/\tp=3)\/(k=7/\wr= -1/\rd= -1/\tp=3)
theorem aM(k wr rd tp:tyI)(n:tyN)(w:tyW)(hk:Ki k wr rd tp)(hn:n=2\/n=3):Calls Tryz.prog 97 #[.agg #[k,(),(),n,wr,rd,tp]] w λe w'=>e=BA true/\Up w w':=by
 have ZH:Ds k:=by unfold Ki at hk;unfold Ds;omega
 have htp:k=3->tp=3:=by unfold Ki at hk;omega
 obtain⟨f1,f2,f3,f4⟩:=NK ZH hn;obtain⟨W,hW,HU,HS⟩:=LN w k 0 0 n wr rd tp;have HG:=I λW=>Un k W (by unfold Ds at ZH;omega)
 have jT:=I λW=>YT k 0 0 wr rd tp n (DZ k n) W f1 (λW=>M9 k 0 0 wr rd tp n W ZH J htp) f2
 have bQ:=I λW=>NU k 0 0 wr rd tp n W ZH J htp
 have HW1:=I λW=>TP (C8 (DZ k n)) W f3
 have HW2:=I λW=>TP (gV k n) W ⟨J,J⟩
 have hg:¬Zw k<tp:=by
  rcases hk with⟨rfl,rfl,rfl,rfl⟩|⟨rfl,rfl,rfl,rfl⟩|⟨rfl,rfl,rfl,rfl⟩|⟨rfl,rfl,rfl,rfl⟩|⟨rfl,rfl,rfl,rfl⟩|⟨rfl,rfl,rfl,rfl⟩<;>decide
 have n1:¬(n:tyI)<1:=J;have n2:¬(8:tyI)<n:=J;have n3:¬(n:tyI)<=0:=J;have n4:¬(n:tyI)<=1:=J;have n5:¬(n:tyI)<= -1:=J;clear f1 f2 f3 f4 ZH htp hn;generalize Zw k=gr at*;generalize C8 (DZ k n)=mc at*;generalize gV k n=ml at*;rcases hk with⟨rfl,rfl,rfl,rfl⟩|⟨rfl,rfl,rfl,rfl⟩|⟨rfl,rfl,rfl,rfl⟩|⟨rfl,rfl,rfl,rfl⟩|⟨rfl,rfl,rfl,rfl⟩|⟨rfl,rfl,rfl,rfl⟩
 all_goals
  go_enter Tryz.func97,Tryz.ntmps97;go_upto_region 1 with fail;refine Br (S:=Ji w.heap.size _ 0 0 n _ _ _) Ay (HS _ (AV _).drew) (λhH0=>?_);refine tk 0 hH0 ?_
  try simp only[pS]
  refine tk 1 hH0 ?_
  try simp only[pS]
  refine tk 2 hH0 ?_
  try simp only[pS]
  refine tk 3 hH0 ?_
  try simp only[pS]
  refine tk 4 hH0 ?_
  try simp only[pS]
  refine tk 5 hH0 ?_
  try simp only[pS]
  refine tk 6 hH0 ?_
  try simp only[pS]
  refine tk 7 hH0 ?_
  try simp only[pS]
  refine tk 8 hH0 ?_
  try simp only[pS]
  refine tk 9 hH0 ?_
  try simp only[pS]
  refine tk 10 hH0 ?_
  try simp only[pS]
  refine tk 11 hH0 ?_
  try simp only[pS]
  refine tk 12 hH0 ?_
  try simp only[pS]
  refine tk 13 hH0 ?_
  try simp only[pS]
  refine tk 14 hH0 ?_
  try simp only[pS]
  refine tk 15 hH0 ?_
  try simp only[pS]
  refine tk 16 hH0 ?_
  try simp only[pS]
  refine tk 17 hH0 ?_
  try simp only[pS]
  refine ry 18 (λK hK=>?_);go_simp;refine(HG _).mono ?_;rintro e _ ⟨rfl,rfl⟩;refine bk hK hH0 λhH1=>?_
  refine tk 19 hH1 ?_
  try simp only[pS]
  refine tk 20 hH1 ?_
  try simp only[pS]
  refine dz ?_
  try simp only[pS,Gi,Gg,GX]
  obtain⟨⟨c0,c1,c2,c3⟩,c4,c5,c6⟩:=hH1;clear hH0;go_upto_region 14 with fail;clear c0 c1 c2 c3 c4 c5 c6;refine Br (S:=Ji w.heap.size _ 0 0 n _ _ _) Ay (HS _ (AV _).drew.drew) (λhH2=>?_);refine tk 0 hH2 ?_
  try simp only[pS]
  refine tk 1 hH2 ?_
  try simp only[pS]
  refine tk 2 hH2 ?_
  try simp only[pS]
  refine ry 3 (λK hK=>?_);go_simp;refine(jT _).mono ?_;rintro e w2 ⟨rfl,hu⟩;have Cm:=I ((AV W).drew.drew.trans hu);clear hu;refine bk hK (HS _ Cm) λhH3=>?_
  refine ry 4 (λK hK=>?_);go_simp;refine(HW1 _).mono ?_;rintro e _ ⟨rfl,rfl⟩;refine bk hK hH3 λVp=>?_
  refine tk 5 Vp ?_
  try simp only[pS]
  refine tk 6 Vp ?_
  try simp only[pS]
  refine tk 7 Vp ?_
  try simp only[pS]
  refine tk 8 Vp ?_
  try simp only[pS]
  refine ry 9 (λK hK=>?_);go_simp;refine(bQ _).mono ?_;rintro e w4 ⟨rfl,hu⟩;have Pz:=I (Cm.trans hu);clear hu;refine bk hK (HS _ Pz) λhH5=>?_
  refine ry 10 (λK hK=>?_);go_simp;refine(HW2 _).mono ?_;rintro e _ ⟨rfl,rfl⟩;refine bk hK hH5 λhH6=>?_
  refine tk 11 hH6 ?_
  try simp only[pS]
  refine tk 12 hH6 ?_
  try simp only[pS]
  refine dz ?_
  try simp only[pS,Gi,Gg,GX]
  go_wp2
  go_ret;exact⟨rfl,HU.trans Pz⟩
end
section
open Go.RowKit
theorem Ia{α:Type}{f:AD->Op Int}(hf:∀a,(f a).few 0):∀(o:Op α),o.few 0->(o.sub f).few 0
 | .ret v,h=>trivial
 | .ask a k,h=>fM _ _ (hf a) λx=>Ia hf (k x) (h x)
 | .get i k,h=>λx=>Ia hf (k x) (h x)
 | .set i v k,h=>Ia hf k h
 | .note c k,h=>by obtain⟨m,h1,_⟩:=h;cases h1
 | .live k,h=>λb=>Ia hf (k b) (h b)
theorem Bn{α:Type}{c:Prop}[Decidable c]{a b:Op α}(ha:a.few 0)(hb:b.few 0):(if c then a else b).few 0:=by split<;>assumption
theorem cr(b lo:tyI)(a:AD):(R3 b lo a).few 0:=Bn (λ_=>trivial) λ_=>Bn trivial λ_=>trivial
theorem Z3{y z:tyI}{k:Op Int}(h:k.few 0):(Hs b lo y z k).few 0:=Bn h λ_ _=>h
theorem fi{x:tyI}:(KT b lo x).few 0:=λ_ _ _=>Bn (λ_=>trivial) λ_=>trivial
theorem N1(b lo:tyI)(a:AD):(Ix b lo a).few 0:=Bn (λ_ _=>Bn (λ_=>trivial) λ_ _ _=>Z3 fi) λ_ _ _=>Bn (λ_=>trivial) trivial
theorem pq(b lo:tyI)(a:AD):(Pd b lo a).few 0:=Bn (λ_=>trivial) (Bn (N1 _ _ _) (Bn (N1 _ _ _) (Bn (N1 _ _ _) (N1 _ _ _))))
theorem VJ{k:Op Int}(h:k.few 0):(lZ b lo v k).few 0:=λ_=>Bn h λ_=>h
theorem dJ(b lo:tyI)(a:AD):(SR b lo a).few 0:=by
 unfold SR cf;refine Ia (pq b lo) _ (Bn (λ_=>VJ λ_ _=>trivial) λy s x=>?_);show(lZ (b+(4+3*Df y)) (lo+(2+4*Df y)) (Df s) (lZ (b+10) (lo+10) (Df y) (.ret 0))).few 0;exact VJ (VJ trivial)
theorem Mj{x:tyI}{k:Op Int}(h:k.few 0):∀cs,(De x cs k).few 0
 |[]=>h
 |c::cs=>λ_=>Mj h cs
theorem Tr{k:Int->Op Int}(h:∀x,(k x).few 0):∀cs x,(MU cs x k).few 0
 |[],x=>h x
 |c::cs,x=>λy=>Tr h cs _
theorem bl(b lo:tyI)(n w:tyN)(top:tyI)(t:tyN)(a:AD):(RX b lo n w top t a).few 0:=
 Ia (λ_=>dJ _ _ _) _ (Bn (λ_=>Tr (λx=>Mj (k:= .ret (B4 x top)) trivial _) _ _) λs=>Mj (k:= .ret 0) trivial _)
theorem NE{b lo:tyI}{n me:tyN}{top:tyI}{k:Int×Int->Op Int}(h:∀p,(k p).few 0):∀js p,(Hr b lo n me top js p k).few 0
 |[],p=>h p
 |j::js,p=>Bn (λ_=>NE h js _) λ_=>NE h js _
theorem qY(b lo:tyI)(n:tyN)(top:tyI)(t:tyN)(a:AD):(aX b lo n top t a).few 0:=
 Ia (λ_=>bl _ _ _ _ _ _ _) _ (Bn (NE (k:=λp=> .ret p.2) (λ_=>trivial) _ _) (NE (k:=λp=> .ask (2,AO b n t,ES p.1 a.2.2 top) λ_=> .set (BD lo n t+1) (ES p.1 a.2.2 top) (.ret 0)) (λ_ _=>trivial) _ _))
theorem Qj{b:tyI}{top:tyN}:∀n i,(IF b top n i).few 0
 |0,i=>trivial
 |n+1,i=>λx=>Bn trivial (Qj n (i+1))
theorem YI{b:tyI}:∀l,(YM b l).few 0
 |[]=>trivial
 |p::l=>λ_=>YI l
theorem vQ(k:tyI)(n t:tyN)(c:CD):((oT k t c).sub (oG k n t)).few 0:=by
 refine Ia (λa=>?_) _ ?_
 .unfold oG;split
  .exact cr _ _ _
  split
  .exact cr _ _ _
  split
  .exact N1 _ _ _
  split
  .exact dJ _ _ _
  split
  .exact bl _ _ _ _ _ _ _
  .exact qY _ _ _ _ _ _
 .unfold oT FH oR oW qi XA qJ XQ;exact Bn (Bn (Bn (λ_=>trivial) (Bn (YI _) (Bn (λ_=>Bn trivial λ_=>trivial) (Bn (λ_=>trivial) λ_=>trivial)))) trivial) (Bn (Bn (Qj _ _) (Bn (Bn (λ_=>trivial) λ_=>trivial) λ_=>trivial)) trivial)
def jM (k:tyI)(n:tyN)(draws:tyL):MD:=⟨λt c=>(oT k t c).sub (oG k n t),Cl (DZ k n) (DZ k n).length,Gs (DZ k n),draws⟩
theorem pG{draws:tyL}(AH:List (List CD)):LS (jM k n draws) AH:=λt c _=>DC _ (vQ k n t c) AQ
theorem D7{draws:tyL}:EE (jM k n draws):=
 ⟨λc=>(Hc _ c).1,λc=>(Hc _ c).2.1,λc t=>(Hc _ c).2.2 t⟩
theorem Xe(hk:Ds k)(hn:n=2\/n=3):Fit (DZ k n)/\(countP (DZ k n)).2=0:=by
 have h:F5 (DZ k n) (DZ k n).length=true/\Cl (DZ k n) (DZ k n).length<=32768:=by
  rcases hk with rfl|rfl|rfl|rfl|rfl|rfl<;>rcases hn with rfl|rfl<;>decide+kernel
 refine⟨⟨h.1,h.2,by have:=(NK hk hn).1;omega⟩,?_⟩;unfold countP;rw[AK h.1,AI J]
theorem aL(k ww rd tp:tyI)(n:tyN)(w:tyW)(hk:Ki k ww rd tp)(hn:n=2\/n=3):
  Calls Tryz.prog 75 #[.agg #[O 7,(),(),(),k,ww,rd,tp],n,(),()] w λe w'=>e=BA (.tuple #[.agg (FC k ww rd tp n),true])/\Up w w':=by
 have HF:=I λW=>aM k ww rd tp n W hk hn
 have hk1:(k==1)=false:=by rw[Dy];unfold Ki at hk;omega
 clear hk hn;have ha:=Ah w (Y #[O 7,(),(),(),k,ww,rd,tp] 46);have hb:=Ah (w.alloc (Y #[O 7,(),(),(),k,ww,rd,tp] 46)) (Y GL 132);rw[Cy]at hb;have ha:=(((AV (w.alloc (Y #[O 7,(),(),(),k,ww,rd,tp] 46))).alloc (Y GL 132)).block w.heap.size Az).trans ha;have KI:=I (show Up w ((w.alloc (Y #[O 7,(),(),(),k,ww,rd,tp] 46)).alloc (Y GL 132))from((AV w).alloc _).alloc _);obtain⟨W0,hW0⟩:=gX ((w.alloc (Y #[O 7,(),(),(),k,ww,rd,tp] 46)).alloc (Y GL 132));rw[hW0]at ha hb KI;have HA:=I ha;have HB:=I hb;have c0:=cI ha 0;have c1:=cI ha 1;have c2:=cI ha 2;have c3:=cI ha 3;have c4:=cI ha 4;have c5:=cI ha 5;have c6:=cI ha 6;have c7:=cI ha 7;have OE:BR (W0.alloc (Y #[(),(),(),(),(),(),()] 130)) W0 #[(),(),(),(),(),(),()] 130:=Ah W0 _;have dj:=World.setRow_alloc_new W0 #[(),(),(),(),(),(),()] #[k,(),(),n,ww,rd,tp] 130;clear ha hb;go_enter Tryz.func75,Tryz.ntmps75;go_upto_region 11 with(refine RH rfl 130 (.tmp 10) (.tmp 44) rfl W0.heap.size #[k,(),(),n,ww,rd,tp] rfl rfl 130 #[(),(),(),(),(),(),()] OE Ay rfl (by simp[Value.oneCell']) ?_)
 rw[dj];clear OE dj;have hk2:=Ah W0 (Y #[k,(),(),n,ww,rd,tp] 130);have hu2:=(AV W0).alloc (Y #[k,(),(),n,ww,rd,tp] 130);obtain⟨W2,hW2⟩:=gX (W0.alloc (Y #[k,(),(),n,ww,rd,tp] 130));obtain⟨zr,hzr⟩:=gX W0.heap.size;rw[hW2,hzr];rw[hW2]at hk2 hu2;rw[hzr]at hk2;have HV:=I (λ(w':tyW) (u:Up W2 w')=>And.intro ((hu2.trans u).block _ (gE HA).1|>.trans HA) (And.intro ((hu2.trans u).block _ (gE HB).1|>.trans HB) (u.block _ (gE hk2).1|>.trans hk2)));have Cm:=I (KI.trans hu2);clear hk2 hu2 hW2 hzr c0 c1 c2 c3 c4 c5 c6 c7 hW0 HA HB KI;have hx:=HV W2 (AV _);have c0:=cI hx.1 0;have c1:=cI hx.1 1;have c2:=cI hx.1 2;have c3:=cI hx.1 3;have c4:=cI hx.1 4;have c5:=cI hx.1 5;have c6:=cI hx.1 6;have c7:=cI hx.1 7;have d0:=cI hx.2.2 0;have d1:=cI hx.2.2 1;have d2:=cI hx.2.2 2;have d3:=cI hx.2.2 3;have d4:=cI hx.2.2 4;have d5:=cI hx.2.2 5;have d6:=cI hx.2.2 6;clear hx;go_wp2_with fail;refine(HF _).mono ?_;rintro e w3 ⟨rfl,hu3⟩;have hx:=HV w3 hu3;have HB3:=I hx.2.1;have Hg:=I (Cm.trans hu3);clear c0 c1 c2 c3 c4 c5 c6 c7 d0 d1 d2 d3 d4 d5 d6 hu3;have c0:=cI hx.1 0;have c1:=cI hx.1 1;have c2:=cI hx.1 2;have c3:=cI hx.1 3;have c4:=cI hx.1 4;have c5:=cI hx.1 5;have c6:=cI hx.1 6;have c7:=cI hx.1 7;have d0:=cI hx.2.2 0;have d1:=cI hx.2.2 1;have d2:=cI hx.2.2 2;have d3:=cI hx.2.2 3;have d4:=cI hx.2.2 4;have d5:=cI hx.2.2 5;have d6:=cI hx.2.2 6;clear hx;have M3:=I (Se w3 (w.heap.size+1) _ (FC k ww rd tp n) _ _ HB3);have sC:=I (Ub Hg (N9 w.heap.size) (FC k ww rd tp n));go_wp2_with(refine RH rfl 132 (.tmp 8) (.tmp 64) rfl (w.heap.size+1) (FC k ww rd tp n) rfl rfl 132 GL HB3 Ay rfl (by simp[Value.oneCell']) ?_)
 refine Gz (v:= .tuple #[.agg (FC k ww rd tp n),true]) ?_ rfl ⟨rfl,sC⟩;exact(GO (p:=8) (u:=9) (ty:=132) rfl _ _ (w.heap.size+1) 132 _ _ _ rfl M3 Tryz.underlying132 rfl Ay).trans rfl
theorem Pu(w:tyW):Calls Tryz.prog 103 #[O 7] w λe w'=>e=BA (.tuple #[sN,()])/\w'=w:=by
 go_enter Tryz.func103,Tryz.ntmps103
 go_wp2
 go_ret2;exact⟨rfl,rfl⟩
theorem MR(k ww rd tp:tyI)(n:tyN)(w:tyW)(hk:Ki k ww rd tp)(hn:n=2\/n=3):Calls Tryz.prog 77 #[.agg (FC k ww rd tp n)] w (Q0 (DZ k n) w):=by
 have ZH:Ds k:=by unfold Ki at hk;unfold Ds;omega
 have htp:k=3->tp=3:=by unfold Ki at hk;omega
 have hk1:(k==1)=false:=by rw[Dy];unfold Ki at hk;omega
 have HP:=I Pu;have HC:=I λW=>M9 k 0 0 ww rd tp n W ZH J htp
 clear hk ZH htp hn;have ha:=Ah w (Y (FC k ww rd tp n) 132);have KI:=I (show Up w (w.alloc (Y (FC k ww rd tp n) 132))from(AV w).alloc _);obtain⟨W0,hW0⟩:=gX (w.alloc (Y (FC k ww rd tp n) 132));rw[hW0]at ha KI;have c0:=cI ha 0;have c14:=cI ha 14;have c15:=cI ha 15;have c16:=cI ha 16;have c17:=cI ha 17;have c18:=cI ha 18;have c19:=cI ha 19;have c20:=cI ha 20;clear ha;go_enter Tryz.func77,Tryz.ntmps77;go_wp2_with fail;refine(HC _).mono ?_;rintro e w2 ⟨⟨v,rfl,ho⟩,hu⟩;have HO:=I (And.intro (BK.low ho KI.size) (KI.trans hu));clear ho hu
 go_wp2
 go_ret;exact⟨⟨_,rfl,HO.1⟩,HO.2⟩
theorem Yc(k ww rd tp:tyI)(n:tyN)(w:tyW)(hk:Ki k ww rd tp)(hn:n=2\/n=3):Calls Tryz.prog 78 #[.agg (FC k ww rd tp n)] w (λe w'=>e=BA (O (gV k n))/\Up w w'):=by
 have ZH:Ds k:=by unfold Ki at hk;unfold Ds;omega
 have htp:k=3->tp=3:=by unfold Ki at hk;omega
 have hk1:(k==1)=false:=by rw[Dy];unfold Ki at hk;omega
 have HP:=I Pu;have HC:=I λW=>NU k 0 0 ww rd tp n W ZH J htp
 clear hk ZH htp hn;have ha:=Ah w (Y (FC k ww rd tp n) 132);have KI:=I (show Up w (w.alloc (Y (FC k ww rd tp n) 132))from(AV w).alloc _);obtain⟨W0,hW0⟩:=gX (w.alloc (Y (FC k ww rd tp n) 132));rw[hW0]at ha KI;have c0:=cI ha 0;have c14:=cI ha 14;have c15:=cI ha 15;have c16:=cI ha 16;have c17:=cI ha 17;have c18:=cI ha 18;have c19:=cI ha 19;have c20:=cI ha 20;clear ha;go_enter Tryz.func78,Tryz.ntmps78;go_wp2_with fail;refine(HP _).mono ?_;rintro e w1 ⟨rfl,rfl⟩;go_wp2_with fail;refine(HC _).mono ?_;rintro e w2 ⟨rfl,hu⟩;have HO:=I (KI.trans hu);clear hu
 go_wp2
 go_ret;exact⟨rfl,HO⟩
structure U3 where
 k:Int
 ww:Int
 rd:Int
 tp:Int
 n:Nat
 hk:Ki k ww rd tp
 hn:n=2\/n=3
def U3.th (r:U3):Hk:=⟨7,0,0,0,r.k,r.ww,r.rd,r.tp⟩
def U3.ob (r:U3):GU:=⟨r.th,⟨0,0,0,0,0,0⟩,⟨r.k,0,0,r.n,r.ww,r.rd,r.tp⟩,0,0⟩
theorem U3.k6(r:U3):Ds r.k:=by have:=r.hk;unfold Ki at this;unfold Ds;omega
theorem U3.rg(r:U3):r.ob.rg=gF r.k r.n:=by
 obtain⟨k,ww,rd,tp,n,hk,hn⟩:=r;rcases hk with⟨rfl,rfl,rfl,rfl⟩|⟨rfl,rfl,rfl,rfl⟩|⟨rfl,rfl,rfl,rfl⟩|⟨rfl,rfl,rfl,rfl⟩|⟨rfl,rfl,rfl,rfl⟩|⟨rfl,rfl,rfl,rfl⟩<;>rfl
structure VL (r:U3)(sc:MN):Prop where
 ok:XK sc
 len:sc.AH.length=r.n
 th:sc.things=[r.th]
 ops:∀t c,c∈sc.AH.getD t []->(c.1=15\/(c.1=16/\0<=c.2.2/\c.2.2<=Ez r.k))/\c.2.1=0
def Q9 (r:U3)(W:tyW)(v:tyV):Prop:= ∃q cap,v=BG q 0 1 cap/\q<W.heap.size/\(1<=cap/\cap<=9223372036854775807)/\Mm W q [r.ob]
theorem Q9.up{r:U3}{W W':tyW}{v:tyV}(h:Q9 r W v)(u:Up W W'):Q9 r W' v:=by
 obtain⟨q,cap,e,hq,hc,ho⟩:=h;exact⟨q,cap,e,B5 hq u.size,hc,ho.up (u.block q hq)⟩
variable {r:U3}{sc:MN}{a:V4}
theorem vI(b off tc:tyN)(w:tyW)(ht:Hm w (some ⟨b,off,none⟩) [r.th]):
  Calls Tryz.prog 49 #[BG b off 1 tc,r.n] w λe w'=> ∃ov,e=BA (.tuple #[ov,()])/\Q9 r w' ov/\Up w w':=by
 have hn:=r.hn;obtain⟨f1,f2,f3,f4⟩:=NK r.k6 r.hn;obtain⟨b2,Kn,e,⟨c0,c1,c2,c3⟩,c4,c5,c6,c7⟩:=ht 0 (I7 0);cases e
 rw[RR,LB]at c0 c1 c2 c3 c4 c5 c6 c7
 refine(ay r.k r.n r.ww r.rd r.tp (gV r.k r.n) (DZ r.k r.n) b off tc w J c0 c1 c2 c3 c4 c5 c6 c7
  (λW=>aL r.k r.ww r.rd r.tp r.n W r.hk r.hn) (λW=>MR r.k r.ww r.rd r.tp r.n W r.hk r.hn) (λW=>Yc r.k r.ww r.rd r.tp r.n W r.hk r.hn) f1 f2 J).mono ?_
 rintro e w' ⟨ov,rfl,hu,hr⟩;refine⟨ov,rfl,?_,hu⟩;rcases hr.2 with⟨rfl,e0⟩|⟨g,cap,cur,rfl,hg,hh,hcap,hmax,hsz2,hcells⟩
 .cases e0
 .refine⟨g,cap,rfl,(gE hh).1,⟨hcap,by unfold maxLen at hmax;omega⟩,⟨λk o ho=>?_⟩⟩
  match k,ho with
  |0,ho=>
   cases ho
   intro j v hv;rw[RR,Dw,Ar w' g j _ _ _ hh];have hlt:=(Be.1 hv).1;have h23:(JE r.ob).length=23:=rfl;rw[h23]at hlt;have h3:(cur.toList.take (1*23))[j]?=some v:=by rw[hcells];exact hv
   rw[Us,AK J]at h3;simpa using h3
theorem VE(W:tyW)(ov:tyV)(ho:Q9 r W ov):Calls Tryz.prog 51 #[ov] W λe w'=> ∃sv,e=BA sv/\BK w' W.heap.size sv (DZ r.k r.n)/\Up W w':=by
 obtain⟨q,cap,rfl,hq,hc,UR⟩:=ho
 refine(Sy r.k r.n r.ww r.rd r.tp (DZ r.k r.n) q cap W (NK r.k6 r.hn).1 (λj u hu=>?_)
  (λW=>MR r.k r.ww r.rd r.tp r.n W r.hk r.hn)).mono ?_
 .have:=UR.row 0 _ rfl j u hu;rw[RR,Dw]at this;exact this
 .rintro e w' ⟨sv,rfl,hs⟩;exact⟨sv,rfl,hs.row,hs.up⟩
theorem vX(H:VL r sc)(w:tyW)(hs:EF w sc a):Calls Tryz.prog 24 #[.agg (gQ a sc)] w (km (Q9 r) w sc (DZ r.k r.n)):=by
 have hn:=r.hn
 have hL:∀W,Up w W->Calls Tryz.prog 49 #[AR a.TA sc.things.length a.tc,sc.AH.length] W λe w'=> ∃ov,e=BA (.tuple #[ov,()])/\Q9 r w' ov/\Up W w':=λW u=>by
  have ht:=(hs.up u).th;rw[H.th]at ht;obtain⟨b,off,e,_⟩:=ht 0 (I7 0);rw[e]at ht;rw[e,H.th,H.len];exact vI b off a.tc W ht
 refine Xo (Q9 r) w hs (by rw[H.len];omega) H.ok.d (NK r.k6 r.hn).1 (Xe r.k6 r.hn).2 (λW W' v h u=>h.up u) (λW v h=>?_) (λW u=>dO W (hs.up u) H.ok λW' u'=>(hL W' (u.trans u')).mono ?_) hL (λW ov h=>VE W ov h)
 .obtain⟨q,cap,e,hq,_⟩:=h;exact⟨q,1,cap,e,hq⟩
 .rintro e w' ⟨ov,rfl,_,hu⟩;exact⟨⟨ov,rfl⟩,hu⟩
theorem AAb(H:VL r sc)(B:tyN)(W1:tyW)(b g h c1:tyN)(ov dv:tyV)(Bj:List Value)(stat:Nat->Prop)(UR:Q9 r W1 ov)(hst:∀k,k<B->k<W1.heap.size->stat k)(hq:∃q n c,ov=BG q 0 n c/\q<B)(hB:B<=W1.heap.size):
  aY (yp B W1 b g h sc.AH.length c1 (DZ r.k r.n) ov dv Bj (jM r.k r.n sc.draws)) sc.AH stat:=by
 intro t ht x0 x1 x2 hin ans loc ha hA hl W2 g' B' hbel hkeep hg hT ob on oc hov;have htn:t<sc.AH.length:=ht;rw[H.len]at htn;have hov:ov=AR ob on oc:=hov;obtain⟨q,cap,rfl,hqs,hcap,Vq⟩:=UR;obtain⟨q2,n2,c2,e2,hqB⟩:=hq;cases e2
 cases hov
 have hbq:hSM W2 W1 q:=hkeep q (hst q hqB hqs);have Y4:=Vq.up hbq;have hq2:q<W2.heap.size:=by have:=hT.1.gs;have:=hg;have:W1.heap.size<=g':=hg;omega
 obtain⟨hop,hx1⟩:=H.ops t _ hin;dsimp only at hop hx1;have hn:=r.hn;have ho:([r.ob]:List GU)[0]?=some r.ob:=rfl;have hdo:=λW' (hT':AX W' g' B' ⟨ans,loc,[],[]⟩)=>AE4 (o:=r.ob) (x1:=x1) r.k6 J htn r.rg hop hT'
 show Calls Tryz.prog 84 _ W2 (AP encR g' B' W2 (((oT r.k t (x0,x1,x2)).sub (oG r.k r.n t)).BH ⟨ans,loc,[],[]⟩));have hx0:x0=15\/x0=16:=hop.imp id λh=>h.1
 rcases hx0 with rfl|rfl
 .exact UG [r.ob] q 1 _ 15 x1 x2 t 0 r.ob _ g' B' ⟨ans,loc,[],[]⟩ W2 hT AQ rfl (λargs W=>rfl) J AQ AQ hcap ho rfl Y4 hq2 λW' hu hT'=>hdo W' hT'
 .exact UG [r.ob] q 1 _ 16 x1 x2 t 0 r.ob _ g' B' ⟨ans,loc,[],[]⟩ W2 hT AQ rfl (λargs W=>rfl) J AQ AQ hcap ho rfl Y4 hq2 λW' hu hT'=>hdo W' hT'
theorem zw(H:VL r sc):cW (Q9 r) (jM r.k r.n sc.draws) sc (DZ r.k r.n) where
 ok:=H.ok
 fit:=(Xe r.k6 r.hn).1
 many:=rfl
 fresh:=rfl
 draws:=rfl
 few:=pG _
 pE:=D7
 ov:=λW v h=>by obtain⟨q,cap,e,_⟩:=h;exact⟨q,1,cap,e⟩
 do':=λB W1 b g h c1 ov dv Bj stat h1 h2 h3 h4=>AAb H B W1 b g h c1 ov dv Bj stat h1 h2 h3 h4
theorem vi(H:VL r sc)(w:tyW)(hs:EF w sc a):Calls Tryz.prog 9 #[.agg (gQ a sc)] w (QX (jM r.k r.n sc.draws) sc w):=
 Xq (Q9 r) w hs (zw H) λW u=>vX H W (hs.up u)
end
section
open Go.RowKit
theorem RC{α:Type}(l:List α){i:tyN}(h:i<l.length)(d:α):l.getD i d∈l:=by
 rw[gD,gG h];exact KD h
structure Fz where
 kind:Nat
 nn:Nat
 acts:List (List Int)
 picks:List BL
 draws:List Int
def V5 (x:Fz):Int:=2+((x.kind%6:tyN):tyI)
def Oa (x:Fz):Nat:=2+x.nn%2
def rkW (k:tyI):Int:=if k=7 then-1 else 0
def yh (k:tyI):Int:=if k=4\/k=5 then 1 else-1
theorem bB(x:Fz):Ds (V5 x):=by unfold Ds V5;omega
theorem mi(k:tyI)(h:Ds k):Ki k (rkW k) (yh k) (Ez k):=by
 rcases h with rfl|rfl|rfl|rfl|rfl|rfl<;>(unfold Ki;decide)
def IP (x:Fz):U3:=⟨V5 x,rkW (V5 x),yh (V5 x),Ez (V5 x),Oa x,mi _ (bB x),by unfold Oa;omega⟩
def Ld (tp a:tyI):CD:=if 0<=a then(16,0,a.tmod (tp+1))else(15,0,0)
def Ga (tp:tyI)(l:tyL)(n:tyN):List CD:=(l.take n).map (Ld tp)
def Eu (x:Fz):List Int:=(FN (x.draws.take 3000) 1073741823).take 64
def JM (x:Fz):List (List CD):=(List.range (Oa x)).map λt=>Ga (Ez (V5 x)) (x.acts.getD t []) 6
def TC (x:Fz):MN:=⟨[(IP x).th],JM x,[],Eu x⟩
def B9 (x:Fz):MN:={TC x with picks:=FI (Oa x) x.picks}
theorem eJ{tp:tyI}{k:tyN}(h:k<l.length):Ga tp l (k+1)=Ga tp l k++[Ld tp (l.getD k 0)]:=by
 unfold Ga;rw[mW h,Gu,getD_lt h];rfl
theorem Qo(tp:tyI)(l:tyL)(k:tyN):(Ga tp l k).length<=k:=by
 unfold Ga;rw[Ca];exact tH _ _
theorem iT{tp:tyI}{k:tyN}(hk:l.length<=k\/6<=k)(h6:k<=6):Ga tp l k=Ga tp l 6:=by
 unfold Ga;rcases hk with hk|hk
 .rw[Ni hk,Ni J]
 .rw[show k=6 by omega]
theorem Jr(x:Fz):(JM x).length=Oa x:=by unfold JM;rw[Ca,Uq]
theorem IY(x:Fz){t:tyN}(h:t<Oa x):(JM x).getD t []=Ga (Ez (V5 x)) (x.acts.getD t []) 6:=by
 unfold JM;rw[gD,BY,Qp h];rfl
theorem aB(x:Fz):2<=Oa x/\Oa x<=3:=by unfold Oa;omega
theorem VC(k:tyI):1<=Ez k/\Ez k<=3:=by unfold Ez;split<;>decide
theorem cT(k a:tyI):((Ld (Ez k) a).1=15\/((Ld (Ez k) a).1=16/\0<=(Ld (Ez k) a).2.2/\(Ld (Ez k) a).2.2<=Ez k))/\(Ld (Ez k) a).2.1=0/\0<=(Ld (Ez k) a).2.2/\(Ld (Ez k) a).2.2<=3:=by
 have h:=VC k;unfold Ld;split
 .rename_i h0;have h1:=Int.tmod_nonneg (Ez k+1) h0;have h2:=Int.tmod_lt_of_pos a (show 0<Ez k+1 by omega);refine⟨.inr ⟨rfl,h1,?_⟩,rfl,h1,?_⟩
  .show a.tmod (Ez k+1)<=_;omega
  .show a.tmod (Ez k+1)<=_;omega
 .exact⟨.inl rfl,rfl,AQ,AQ⟩
theorem WH(x:Fz):(Eu x).length<=64/\∀d∈Eu x,0<=d/\d<=1073741823:=by
 unfold Eu;refine⟨tH _ _,λd hd=>?_⟩;have hd:=List.mem_of_mem_take hd;unfold FN at hd;obtain⟨y,_,rfl⟩:=Cd.1 hd;unfold Di;have hc:BC 1073741823 0 1099511627776=1073741823:=AQ;rw[hc];have h2:=XZ y (show(1073741823:tyI)+1≠0 by omega);have h3:=Yi y (show 0<(1073741823:tyI)+1 by omega);omega
theorem Ok(x:Fz):VL (IP x) (B9 x):=by
 have hn:=aB x;have hp:=gn (show 1<=Oa x by omega) (show Oa x<=8 by omega) x.picks;have hd:=WH x;have hl:(B9 x).AH.length=Oa x:=Jr x
 have hmem:∀t c,c∈(B9 x).AH.getD t []->∃a,c=Ld (Ez (V5 x)) a:=λt c hc=>by
  rcases CR t (Oa x)with h|h
  .rw[show(B9 x).AH.getD t []=_ from IY x h]at hc;unfold Ga at hc;obtain⟨a,_,e⟩:=Cd.1 hc;exact⟨a,e.symm⟩
  .rw[gD,VA (by rw[hl];exact h)]at hc;cases hc
 refine⟨⟨by rw[hl];omega,by show 1<=8;omega,by have:=hp.1;show(FI _ _).length<=400;omega,hd.1,λi hi=>?_,λi hi=>by rw[hl];exact hp.2.2 i hi,λi hi=>hd.2 _ (RC _ hi _),λi hi=>?_,hp.2.1⟩,hl,rfl,λt c hc=>?_⟩
 .rw[hl]at hi;have e:(B9 x).AH.getD i []=Ga (Ez (V5 x)) (x.acts.getD i []) 6:=IY x hi;have h6:=Qo (Ez (V5 x)) (x.acts.getD i []) 6;rw[<-e]at h6;refine⟨J,λj hj=>?_⟩;obtain⟨a,ha⟩:=hmem i _ (RC _ hj (0,0,0));rw[ha];obtain⟨h1,h2,h3,h4⟩:=cT (V5 x) a;unfold OZ;refine⟨?_,by rw[h2];decide,h3,J⟩;rcases h1 with h1|⟨h1,_⟩<;>rw[h1]<;>decide
 .have hi0:i=0:=by have:i<1:=hi;omega
  subst hi0;show Hv (IP x).th;have hv:=mi _ (bB x);unfold Ki at hv;unfold Hv U3.th IP;dsimp only;omega
 .obtain⟨a,rfl⟩:=hmem t c hc;obtain⟨h1,h2,_,_⟩:=cT (V5 x) a;exact⟨h1,h2⟩
theorem Ru(x:Fz)(t:tyN):((B9 x).AH.getD t []).length<=6:=by
 rcases CR t (Oa x)with h|h
 .rw[show(B9 x).AH.getD t []=_ from IY x h];exact Qo _ _ 6
 .rw[gD,VA (by rw[show(B9 x).AH.length=_ from Jr x];exact h)];exact DV _
def Mh (w:tyW)(A:tyA)(l:List (List Int)):Prop:= ∀i,i<l.length->∃b off A' c',A=some ⟨b,off,none⟩/\V w b (off+i) (AR A' (l.getD i []).length c')/\Row w A' (l.getD i []).length (Bl (l.getD i []))
theorem Mh.up{A:tyA}{l:List (List Int)}(h:Mh w A l)(u:Up w w'):Mh w' A l:=λi hi=>by
 obtain⟨b,off,A',c',e,h0,h1⟩:=h i hi;exact⟨b,off,A',c',e,(u.cell (AJ h0)).trans h0,Row.up h1 u⟩
structure RE (w W0 wr:tyW)(zb:tyN)(c0 c3 pv:tyV)(Bj:List Value)(Ps:List (List CD)):Prop where
 up:Up w wr
 size:W0.heap.size<=wr.heap.size
 fr:∀k,k<W0.heap.size->k≠zb->hSM wr W0 k
 blk:BR wr zb #[c0,pv,sN,c3] 27
 row:wr.ownsRow W0.heap.size 66 1 pv Bj.length Bj
 pr:∀i,i<Bj.length->CM wr W0.heap.size (Bj.getD i JN) (Ps.getD i [])/\∀k,(Bj.getD i JN).ownBlock=some k->pv.ownBlock≠some k
theorem RE.grow{W0 wr W:tyW}{c0 c3:tyV}(H:RE w W0 wr zb c0 c3 pv Bj P)(u:Up wr W):RE w W0 W zb c0 c3 pv Bj P:=
 ⟨H.up.trans u,DB H.size u.size,λk h1 h2=>(u.block k (B5 h1 H.size)).trans (H.fr k h1 h2),(u.block _ (gE H.blk).1).trans H.blk,AS H.row λk e=>u.block k (CX H.row k e).2,λi hi=>⟨(H.pr i hi).1.up u,(H.pr i hi).2⟩⟩
theorem RE.push{W0 wx wy w5:tyW}{c0 c3 p:tyV}{g5 cap5:tyN}(H:RE w W0 wx zb c0 c3 pv Bj P)(hw:w.heap.size<=zb)(hz:zb<W0.heap.size)(hu:Up wx wy)(hp:CM wy wx.heap.size p (P.getD Bj.length []))
  (hown:w5.ownsRow W0.heap.size 66 1 (BG g5 0 (Bj.length+1) cap5) (Bj.length+1) (Bj++[p]))
  (hg:(wy.alloc (Y #[p] 66)).grownBy w5 pv.ownBlock) (hat:pv.ownBlock=some g5\/g5=(wy.alloc (Y #[p] 66)).heap.size):
  RE w W0 (w5.setCell (aD zb 1) (BG g5 0 (Bj.length+1) cap5)) zb c0 c3 (BG g5 0 (Bj.length+1) cap5) (Bj++[p]) P:=by
 have hbl:=(gE H.blk).1;have hsz:wx.heap.size<=wy.heap.size:=hu.size;have hs1:(wy.alloc (Y #[p] 66)).heap.size=wy.heap.size+1:=Az;have hu1:Up wx (wy.alloc (Y #[p] 66)):=hu.trans ((AV wy).alloc _);have V0:∀k,pv.ownBlock=some k->W0.heap.size<=k/\k<wx.heap.size:=λk e=>H.row.lt k e
 have hs0:=H.size;have hk5:∀k,k<(wy.alloc (Y #[p] 66)).heap.size->pv.ownBlock≠some k->w5.heap[k]?=(wy.alloc (Y #[p] 66)).heap[k]?:=λk hk hne=>hg.block k hk (λe=>hne e.symm)
 have hold:∀k,k<W0.heap.size->hSM w5 wx k:=λk hk=>(hk5 k J (λe=>by have:=V0 k e;omega)).trans (hu1.block k J)
 have hset:∀k,k≠zb->hSM (w5.setCell (aD zb 1) (BG g5 0 (Bj.length+1) cap5)) w5 k:=λk hk=>BF w5 ⟨zb,1,none⟩ _ k hk
 have hs5:(wy.alloc (Y #[p] 66)).heap.size<=w5.heap.size:=hg.size;refine⟨?_,by simp;omega,λk h1 h2=>(hset k h2).trans ((hold k h1).trans (H.fr k h1 h2)),?_,?_,λi hi=>?_⟩
 .refine C5 (p:=aD zb 1) ?_ hw _;exact DL (H.up.trans hu1) (KX (B:=W0.heap.size) (grownBy_below hg J λk e=>(V0 k e).1) J)
 .exact AT ((hold zb hz).trans H.blk) 1 _
 .rw[Gx,IN];exact AS hown λk e=>hset k (λe2=>by have:=(hown.lt k e).1;omega)
 .rw[Gx,IN]at hi;rcases CR i Bj.length with hlt|hge
  .rw[LP _ _ _ hlt];obtain⟨h1,h2⟩:=H.pr i hlt;refine⟨AS h1 λk e=>?_,λk e e2=>?_⟩
   .have hkl:=h1.lt k e;exact(hset k J).trans ((hk5 k J (h2 k e)).trans (hu1.block k hkl.2))
   .have hkl:=h1.lt k e;have e3:g5=k:=by cases e2;rfl
    rcases hat with q|q
    .exact h2 k e (by rw[q,e3])
    .omega
  .have hie:i=Bj.length:=J;subst hie;rw[LC];refine⟨AS (Da hp H.size) λk e=>?_,λk e e2=>?_⟩
   .have hkl:=hp.lt k e;have:=hk5 k J (λe2=>by have:=V0 k e2;omega);exact(hset k J).trans (this.trans (((AV wy).alloc _).block k hkl.2))
   .have hkl:=hp.lt k e;have e3:g5=k:=by cases e2;rfl
    rcases hat with q|q
    .have:=V0 g5 q;omega
    .omega
theorem Uv{A:tyA}{cs:Array Value}(h:Row w A n (Bl l))(hb:BR w zb cs t)(hn:∀(j:tyN) (x:tyI),cs[j]?≠some (Value.int .i64 x))(hk:∀k,k<w.heap.size->k≠zb->hSM w' w k):Row w' A n (Bl l):=λi hi=>by
 obtain⟨b,off,e,hc⟩:=h i hi;refine⟨b,off,e,(CI (hk b (AJ hc) λe2=>?_)).trans hc⟩;rw[e2,AL hb]at hc;exact hn _ _ hc
theorem WC(j:tyN)(x:tyI):(#[sN,sN,sN,sN]:Array Value)[j]?≠some (Value.int .i64 x):=λh=>by
 have hm:=fd h;simp at hm
theorem XP(tb:tyN)(DA:tyA)(tn dc j:tyN)(x:tyI):(#[BG tb 0 1 1,sN,sN,AR DA tn dc]:Array Value)[j]?≠some (Value.int .i64 x):=λh=>by
 have hm:=fd h;simp at hm
theorem aV{B e size c:tyN}{xs:List Value}(h:w.ownsRow B e size (AR none n c) n xs):c=0:=by
 rcases h.2 with⟨h1,_⟩|⟨g,cap,cur,h1,_⟩
 .cases h1;rfl
 .cases h1
theorem gT{wr:tyW}{B:tyN}{Ps:List (List CD)}(hrow:wr.ownsRow B 66 1 pv Bj.length Bj)(hpr:∀i,i<Bj.length->CM wr B (Bj.getD i JN) (Ps.getD i []))(hn:Bj.length=Ps.length)(hP:∀i,(Ps.getD i []).length<=1000000):∃A c,pv=AR A Ps.length c/\Lm wr A Ps:=by
 obtain⟨A,c,rfl,_,_⟩:=Af hrow;refine⟨A,c,by rw[hn],λi hi=>?_⟩;rw[<-hn]at hi;have h1:=hpr i hi
 have hfl:∀l:List Value,l.flatMap (λv=>[v])=l:=λl=>by
  induction l with
  |nil=>rfl
  |cons a l ih=>rw[It,ih];rfl
 have hrow2:wr.ownsRow B 66 1 (AR A Bj.length c) Bj.length (Bj.flatMap (λv=>[v])):=by rw[hfl];exact hrow
 obtain⟨b2,cap2,e2,_,hc⟩:=D1 (f:=λv=>[v]) JN hrow2 (λ_=>rfl) hi;cases e2
 have h0:=hc 0 AQ;rw[dE,LB]at h0;obtain⟨A3,c3,e3,h3,h4⟩:=Af h1;have h0:V wr b2 (0+i) (AR A3 (Ps.getD i []).length c3):=by rw[<-e3];exact h0
 refine⟨b2,0,A3,c3,rfl,h0,?_,h3,hP i,h4,λe4=>?_⟩
 .rcases Pf (Ps.getD i []).length with hz|hz
  .exact λj hj=>J
  .obtain⟨b,cap,e,_,_,_,hat⟩:=h1.at' hz;rw[e3]at e;cases e
   exact hat
 .subst e4;unfold CM at h1;rw[e3]at h1;exact aV h1
theorem RE.fin{w W0 wx wF:tyW}{tb rs dc d3:tyN}{TH:Hk}{DA:tyA}{dl:tyL}(H:RE w W0 wx zb (BG tb 0 1 1) (AR DA d3 dc) pv Bj P)(hrs:rs<W0.heap.size)(hrz:rs≠zb)(hrt:rs≠tb)(htz:tb≠zb)(htb:BR W0 tb (OM TH).toArray 46)
  (hz0:BR W0 zb #[BG tb 0 1 1,sN,sN,AR DA d3 dc] 27) (hr:BR W0 rs #[sN,sN,sN,sN] 27)
  (hdr:Row W0 DA d3 (Bl dl)) (hdl:dl.length=d3) (yV:d3<=dc/\(DA=none->dc=0)/\dc<=9223372036854775807) (hn:Bj.length=P.length) (hP:∀i,(P.getD i []).length<=1000000) (hk:∀k,k≠rs->hSM wF wx k):
  ∃A c,pv=AR A P.length c/\EF wF ⟨[TH],P,[],dl⟩ ⟨some ⟨tb,0,none⟩,1,A,c,none,0,DA,dc⟩:=by
 obtain⟨A,c,e,hpg⟩:=gT (AS H.row λk e=>hk k (by have:=(CX H.row k e).1;omega)) (λi hi=>AS (H.pr i hi).1 λk e=>hk k (by have:=((H.pr i hi).1.lt k e).1;omega)) hn hP;have htl:tb<W0.heap.size:=(gE htb).1;have Y5:=(hk tb (Cz hrt)).trans ((H.fr tb htl htz).trans htb);have hrx:=(H.fr rs hrs hrz).trans hr;have hdx:Row wx DA d3 (Bl dl):=Uv hdr hz0 (XP tb DA d3 dc) (λk h1 h2=>H.fr k h1 h2);have hdF:Row wF DA d3 (Bl dl):=Uv hdx hrx WC (λk _ h2=>hk k h2);refine⟨A,c,e,⟨λi hi=>?_,hpg,λi hi=>by simp at hi,by rw[hdl];exact hdF,yV.2.1,by rw[hdl];exact yV.1,yV.2.2⟩⟩;have hi0:i=0:=by simp at hi;omega
 subst hi0;refine⟨tb,0,rfl,⟨?_,?_,?_,?_⟩,?_,?_,?_,?_⟩
 all_goals(first|exact AL Y5 0|exact AL Y5 1|exact AL Y5 2|exact AL Y5 3|exact AL Y5 4|exact AL Y5 5|exact AL Y5 6|exact AL Y5 7)
end
section
open Go.ChangeShapes Go.WideShapes Go.ChangeAt Go.RowKit Go.Deep
section
variable {H:Type}{enc:TypeId×Value->H}{P:Program}{w:tyW}
theorem qA{e e2:TypeId}{fuel:tyN}{cs:List Value}{x:DataW H×List MemPlace}(ht:P.underlying t=some (.slice e))(he:P.underlying e=some (.slice e2))(hC:P.cellsOf e=1)(he2:P.underlying e2=some (.int .i64))(hC2:P.cellsOf e2=1)(h:DataW.trod enc P w 0 (λ_=>true) true fuel t cs=some x):
  ∃(A:tyA) (l:List (List Int)) (c:tyN),cs=[.slice A l.length c]/\Mh w A l:=by
 rcases open_slice1 ht hC h with⟨rfl,_⟩|⟨a,len,cap,m,n,AF,D,Pl,rfl,_,hl,hm,hmm,_,hx⟩
 .exact⟨none,[],0,rfl,λk hk=>absurd hk (Uu k)⟩
 .simp only[Ke]at hmm;subst hmm
  have hcell:∀i,i<m->∃p:Option Addr×List Int×Nat,w.cell? (a.add i)=some (.slice p.1 p.2.1.length p.2.2)/\Row w p.1 p.2.1.length (Bl p.2.1):=λi hi=>by
   obtain⟨h1,h2⟩:=hx i hi;obtain⟨A',l',c',e1,hr⟩:=dN he he2 hC2 h2;simp only[Q8,P9]at e1;rw[e1]at h1;exact⟨(A',l',c'),h1,hr⟩
  obtain⟨p,hp⟩:∃p:Nat->Option Addr×List Int×Nat,∀i,i<m->w.cell? (a.add i)=some (.slice (p i).1 (p i).2.1.length (p i).2.2)/\Row w (p i).1 (p i).2.1.length (Bl (p i).2.1):=
   ⟨λi=>if h:i<m then(hcell i h).choose else(none,[],0),λi him=>by simpa only[IG him]using(hcell i him).choose_spec⟩
  have hlen:((List.range len).map λi=>(p i).2.1).length=len:=Az;refine⟨some a,(List.range len).map λi=>(p i).2.1,m,by rw[hlen],?_⟩;intro k hk;rw[hlen]at hk;obtain⟨h0,h1⟩:=hp k J;obtain⟨b,off,spot⟩:=a;have hspot:spot=none:=by simpa[Addr.add]using lU (hp 0 J).1
  subst hspot;have e:((List.range len).map λi=>(p i).2.1).getD k []=(p k).2.1:=by rw[gD,BY,Qp hk];rfl
  rw[e];exact⟨b,off,(p k).1,(p k).2.2,rfl,by rw[<-JC];exact h0,h1⟩
theorem eX{b0:tyN}{r:Reach}{e2 e3 e4 e5:TypeId}{f0 f1 f2 f3 f4 g0 g1 g2:Field}{v:tyV}{d:DataW H}{p:List MemPlace}
  (hs:P.underlying t=some (.struct #[f0,f1,f2,f3,f4])) (hone:oneCellFields P #[f0,f1,f2,f3,f4]=true) (hC:P.cellsOf t=5)
  (u0:P.underlying f0.type=some (.int .u8)) (u1:P.underlying f1.type=some (.int .u8)) (u2:P.underlying f2.type=some (.slice e2)) (u3:P.underlying f3.type=some (.slice e3)) (u4:P.underlying f4.type=some (.slice e4))
  (v3:P.underlying e3=some (.struct #[g0,g1,g2])) (hC3:P.cellsOf e3=3) (o0:g0.offset=0) (o1:g1.offset=1) (o2:g2.offset=2) (k0:P.cellsOf g0.type=1) (k1:P.cellsOf g1.type=1) (k2:P.cellsOf g2.type=1)
  (w0:P.underlying g0.type=some (.int .i64)) (w1:P.underlying g1.type=some (.int .i64)) (w2:P.underlying g2.type=some .bool) (v4:P.underlying e4=some (.int .i64)) (hC4:P.cellsOf e4=1)
  (v2:P.underlying e2=some (.slice e5)) (hC2:P.cellsOf e2=1) (v5:P.underlying e5=some (.int .i64)) (hC5:P.cellsOf e5=1)
  (hv:Value.okWide P w r b0 t v) (h:DataW.Trod enc P w 0 (λ_=>true) true t v d p):
  ∃(x0 x1:tyN) (C:tyA) (q:List (List Int)) (cc:tyN) (A:tyA) (l:List BL) (c:tyN) (B:tyA) (m:tyL) (k:tyN),v= .agg #[.int .u8 x0,.int .u8 x1,AR C q.length cc,AR A l.length c,AR B m.length k]/\(x0<256/\x1<256)/\Mh w C q/\Fg w A l/\Row w B m.length (Bl m):=by
 obtain⟨cs,rfl,hsz⟩:=okWide_struct hs hv;obtain⟨l⟩:=cs
 match l,hsz.trans hC with
 |[c0,c1,c2,c3,c4],_=>
  obtain⟨fuel,hf⟩:=h;obtain⟨xs,n,_,hx,_,hlen,hg⟩:=DataW.trod_struct hs hf
  match xs,hlen with
  |[y0,y1,y2,y3,y4],_=>
   obtain⟨q0,j0⟩:=hone_of hone 0 f0 rfl;have r0:DataW.trod enc P w 0 (λ_=>true) true n f0.type [c0]=some y0:=by simpa[Value.cells,q0,j0]using hg 0 f0 rfl
   obtain⟨x0,e0,_,b0⟩:=WF u0 r0;obtain⟨q1,j1⟩:=hone_of hone 1 f1 rfl;have r1:DataW.trod enc P w 0 (λ_=>true) true n f1.type [c1]=some y1:=by simpa[Value.cells,q1,j1]using hg 1 f1 rfl
   obtain⟨x1,e1,_,b1⟩:=WF u1 r1;obtain⟨q2,j2⟩:=hone_of hone 2 f2 rfl;have r2:DataW.trod enc P w 0 (λ_=>true) true n f2.type [c2]=some y2:=by simpa[Value.cells,q2,j2]using hg 2 f2 rfl
   obtain⟨C,q,cc,e2,hq⟩:=qA u2 v2 hC2 v5 hC5 r2;obtain⟨q3,j3⟩:=hone_of hone 3 f3 rfl;have r3:DataW.trod enc P w 0 (λ_=>true) true n f3.type [c3]=some y3:=by simpa[Value.cells,q3,j3]using hg 3 f3 rfl
   obtain⟨A,l,c,e3,hl⟩:=lT u3 v3 hC3 o0 o1 o2 k0 k1 k2 w0 w1 w2 r3;obtain⟨q4,j4⟩:=hone_of hone 4 f4 rfl;have r4:DataW.trod enc P w 0 (λ_=>true) true n f4.type [c4]=some y4:=by simpa[Value.cells,q4,j4]using hg 4 f4 rfl
   obtain⟨B,m,k,e4,hm⟩:=dN u4 v4 hC4 r4;simp only[Q8,P9]at e0 e1 e2 e3 e4;subst e0 e1 e2 e3 e4;have b0:=tu b0;have b1:=tu b1;obtain⟨n0,rfl⟩:∃n:Nat,x0=n:=⟨x0.toNat,J⟩;obtain⟨n1,rfl⟩:∃n:Nat,x1=n:=⟨x1.toNat,J⟩;exact⟨n0,n1,C,q,cc,A,l,c,B,m,k,rfl,J,hq,hl,hm⟩
end
end
end Go.Proofs.YtpodgcpkccpnfaaGreat
