import Derived.Test.YtpodgcpkccpnfaaGreatPk13
import Derived.Test.YtpodgcpkccpnfaaGreatPk26
import Derived.Test.YtpodgcpkccpnfaaGreatPk28
set_option linter.unusedVariables false
set_option linter.unusedSimpArgs false
set_option maxRecDepth 20000
set_option maxHeartbeats 40000000
namespace Go.Proofs.YtpodgcpkccpnfaaGreat
variable{b lo:Int}{R:Option RD×TS}{w:World}
section
open Go.RowKit Go.Shelf
theorem kP(l:List SD):(l.flatMap stripL).length=l.length*3:=by
 induction l with
 |nil=>rfl
 |cons a l ih=>rw[It,Gx,ih];simp[stripL];omega
def IU:List SD:=[⟨4,1,1099511627776⟩,⟨12,1,1⟩]
def EA:Nat->List SD
 |0=>[]
 |j+1=>EA j++IU
theorem Ny(j:tyN):(EA j).length=2*j:=by
 induction j with
 |zero=>rfl
 |succ j ih=>show(EA j++IU).length=_;rw[Gx,ih];show 2*j+2=_;omega
theorem Wm(a:tyN):∀b,EA (a+b)=EA a++EA b
 |0=>(Jc _).symm
 |b+1=>by
  show EA (a+b)++IU=EA a++(EA b++IU);rw[Wm a b,Jt]
theorem Nz(w:tyW):Calls Tryz.prog 130 #[] w λe w'=>e=BA (BG w 0 1 1)/\BR w' w #[O 1,O 1,O 1] 152/\Up w w':=by
 have HB:=I (Ah w (Y #[O 1,O 1,O 1] 152));go_enter Tryz.func130,Tryz.ntmps130
 go_wp2
 go_ret;exact⟨rfl,HB,(AV _).alloc _⟩
theorem PZ(w:tyW):Calls Tryz.prog 132 #[] w λe w'=>e=BA (BG w 0 1 1)/\BR w' w #[O 3,O 1,O 1] 152/\Up w w':=by
 have HB:=I (Ah w (Y #[O 3,O 1,O 1] 152));go_enter Tryz.func132,Tryz.ntmps132
 go_wp2
 go_ret;exact⟨rfl,HB,(AV _).alloc _⟩
theorem Uc{w':tyW}{m k t:tyI}(hb:BR w' w #[m,k,t] 152):BK w' w.heap.size (BG w 0 1 1) [⟨m,k,t⟩]:=
 ⟨rfl,.inr ⟨w.heap.size,1,_,rfl,A9 _,hb,A9 _,AQ,rfl,rfl⟩⟩
theorem Xt{w1:tyW}{q:tyN}(hq:w.heap.size=q)(hb:BR w1.drew q #[O 1,O 1,O 1] 152)(hu:Up w w1.drew):(∃v,Ending.returned (BG q 0 1 1)=BA v/\BK (w1.setCell (aD q 0) (O 4)).drew q v [⟨4,1,1⟩])/\Up w (w1.setCell (aD q 0) (O 4)).drew:=by
 subst hq;have h1:BR w1 w #[O 1,O 1,O 1] 152:=hb;exact⟨⟨_,rfl,Uc (by show(w1.setCell _ _).heap[w.heap.size]?=_;simp[World.setCell,l9,h1])⟩,hu.os,hu.tape,hu.output,by simpa using hu.size,λk hk=>(BF w1 _ _ k (by show k≠w.heap.size;omega)).trans (hu.block k hk)⟩
theorem YK(w:tyW):Calls Tryz.prog 131 #[O 3] w λe w'=>(∃v,e=BA v/\BK w' w.heap.size v [⟨4,1,1⟩])/\Up w w':=by
 have Y3:=I (λW=>Ls 3 W AQ);go_enter Tryz.func131,Tryz.ntmps131;go_wp2_with fail;refine(Nz _).mono ?_;rintro e w1 ⟨rfl,hb,hu⟩;have HB:=I (((AV w1).drew.block _ (gE hb).1).trans hb);have HU:=I hu.drew;clear hb hu;generalize hq:w.heap.size=q at HB|-;have HQ:=I hq;clear hq;have c0:=Ar _ _ 0 _ _ _ HB;simp only[Kz,Gc]at c0;go_upto_region 2 with fail;have f0:=fI HB 0;have w4:IntKind.i64.wrap 4=4:=rfl;refine Br (S:=λ_=>True) Ay trivial (λhT=>?_);refine tq 0 hT ?_;refine tq 1 hT ?_;refine tq 2 hT ?_;refine tq 4 hT ?_;refine Dn (rs:=[3,5]) SU Az ?_;refine BU rfl (λK hK=>?_) (BU rfl (λK hK=>?_) Dp)
 .go_simp;refine bk hK hT λ_=>?_
  refine ry 5 (λK hK=>?_);go_simp;refine(Y3 _).mono ?_;rintro e _ ⟨rfl,rfl⟩;refine bk hK hT λ_=>?_
  refine tq 6 hT ?_;refine tq 7 hT ?_;refine tq 8 hT ?_;refine tq 9 hT ?_;refine ry 10 (λK hK=>?_);go_simp;refine bk hK hT λ_=>?_
  refine dz ?_
  try simp only[pS,Gi,Gg,GX]
  go_wp2
  go_ret;rw[HQ];exact Xt HQ HB HU
 .go_simp;refine(Y3 _).mono ?_;rintro e _ ⟨rfl,rfl⟩;refine bk hK hT λ_=>?_
  refine tq 6 hT ?_;refine ry 3 (λK hK=>?_);go_simp;refine bk hK hT λ_=>?_
  refine tq 7 hT ?_;refine tq 8 hT ?_;refine tq 9 hT ?_;refine ry 10 (λK hK=>?_);go_simp;refine bk hK hT λ_=>?_
  refine dz ?_
  try simp only[pS,Gi,Gg,GX]
  go_wp2
  go_ret;rw[HQ];exact Xt HQ HB HU
theorem Pn(w:tyW):Calls Tryz.prog 133 #[] w λe w'=>(∃v,e=BA v/\BK w' w.heap.size v IU)/\Up w w':=by
 obtain⟨i0,hi,hz0,hz1,hz2⟩:=info_parts EG;have HI:=I hi;have HZ0:=I hz0;have HZ1:=I hz1;have HZ2:=I hz2;have HB0:=I (Ah w (Y #[O 4,O 1,O 1099511627776] 152));have OH:=I (show Up w (w.alloc (Y #[O 4,O 1,O 1099511627776] 152))from(AV _).alloc _);clear hi hz0 hz1 hz2;go_enter Tryz.func133,Tryz.ntmps133;go_wp2_with fail;refine(PZ _).mono ?_;rintro e w2 ⟨rfl,hb2,hu2⟩;have HB2:=I hb2;have Cm:=I (OH.trans hu2);have Jd:=I (show BK w2 w.heap.size (BG w 0 1 1) [⟨4,1,1099511627776⟩]from Uc ((hu2.block _ (gE HB0).1).trans HB0));clear hb2 hu2 HB0;generalize(w.alloc (Y #[O 4,O 1,O 1099511627776] 152)).heap.size=g2 at*;go_wp2_with fail
 go_loopw[1,8] (λu v wr=> ∃(j:tyN),j<=1/\v=O j/\Hid (BK wr w.heap.size u (IU.take (1+j))/\Up w wr/\(j=0->BR wr g2 #[O 3,O 1,O 1] 152))) (λ_ v _=>1-(intOf v).toNat)
 case atStart=>exact⟨0,J,rfl,I ⟨Jd,Cm,λ_=>HB2⟩⟩
 case round=>
  obtain⟨j,hj,rfl,HO⟩:=hrel;by_cases hlt:j<1
  .obtain rfl:j=0:=J;have hb:=HO.2.2 rfl;have e0:=cI hb 0;have e1:=cI hb 1;have e2:=cI hb 2;have hUa:Up wr (wr.alloc (Y #[O 12,O 1,O 1] 152)):=(AV wr).alloc _;have o7:=I (show BK _ w.heap.size u1 [⟨4,1,1099511627776⟩]from BK.up HO.1 hUa);have IK:=I (HO.2.1.trans hUa);have jP:=I (show w.heap.size<=(wr.alloc (Y #[O 12,O 1,O 1] 152)).heap.size from IK.size);clear hb hUa;go_wp2_with(at_builtin;refine Ii (news:=[.int .i64 12,.int .i64 1,.int .i64 1]) rfl (.tmp 16) (.tmp 18) 103 rfl w.heap.size i0 (.agg #[(),(),()]) 3 24 Tryz.underlying103 HI HZ0 HZ1 HZ2 rfl AQ _ 1 _ rfl o7 (by show Value.slice (some (aD (wr+1) 0)) 1 1=_;simp) rfl (by simp[Value.oneCell']) AQ AQ jP ?_;intro v' w6 hown6 hg hbl)
   have OJ:=I (show BK w6 w.heap.size v' (IU.take (1+(0+1)))/\Up w w6/\((1:tyN)=0->BR w6 g2 #[O 3,O 1,O 1] 152)from⟨hown6,show Below w.heap.size w w6 from DL IK hbl,λe=>absurd e AQ⟩);clear hown6 hg hbl
   go_wp2
   go_roundw
   case rel=>exact⟨1,J,by go_num,OJ⟩
   case measure=>simp[intOf]
  .obtain rfl:j=1:=J;clear hlt
   go_wp2
   go_ret;exact⟨⟨_,rfl,HO.1⟩,HO.2.1⟩
theorem Pa(n:tyN)(w:tyW)(hn:1<=n/\n<=8):Calls Tryz.prog 134 #[n] w λe w'=>(∃v,e=BA v/\BK w' w.heap.size v (EA (EC n)))/\Up w w':=by
 obtain⟨i0,hi,hz0,hz1,hz2⟩:=info_parts EG;have HI:=I hi;have HZ0:=I hz0;have HZ1:=I hz1;have HZ2:=I hz2;obtain⟨k,hk⟩:∃k:Nat,n-1=k:=⟨_,rfl⟩;have hk1:(n:tyI)-1=k:=J;have ik:k<=7:=J;obtain⟨q,hq⟩:∃q:Nat,k*k=q:=⟨_,rfl⟩;have hq1:(k:tyI)*k=q:=by rw[<-hq];simp
 have AG1:q<=49:=by rw[<-hq];exact LZ ik ik
 have hw1:wrap64 ((n:tyI)-1)=(k:tyI):=by rw[hk1];exact IntWalk.wrap64_in _ J
 have hw2:wrap64 ((k:tyI)*k)=(q:tyI):=by rw[hq1];exact IntWalk.wrap64_in _ J
 rw[show EC n=q from by unfold EC;rw[hk,hq]];have HQ:=I AG1;have Sc:=I (FJ n w hn);clear hi hz0 hz1 hz2;go_enter Tryz.func134,Tryz.ntmps134;go_wp2_with fail;refine Sc.mono ?_;rintro e w1 ⟨rfl,rfl⟩;go_wp2_with fail;clear hk hk1 ik hq hq1 hw1 hw2 hn Sc
 go_loopw[4,11] (λu v wr=> ∃(j:tyN),j<=q/\v=O j/\Hid (BK wr w1.heap.size u (EA j)/\Up w1 wr)) (λ_ v _=>q-(intOf v).toNat)
 case atStart=>exact⟨0,J,rfl,I ⟨⟨rfl,.inl ⟨rfl,rfl⟩⟩,AV _⟩⟩
 case round=>
  obtain⟨j,hj,rfl,HO⟩:=hrel;by_cases hlt:j<q
  .have hji:(j:tyI)<q:=J;go_wp2_with fail;refine(Pn _).mono ?_;rintro e w2 ⟨⟨v2,rfl,ho2⟩,hu2⟩;obtain⟨g,cap,rfl,hg1,hg2⟩:=World.ownsRow.form ho2 AQ;have HN:=I (λj u h=>tW ho2 (g:=g) rfl j u h);have o7:=I (BK.up HO.1 hu2);have IK:=I (HO.2.trans hu2);have HB:=I (show(EA j).length+2<=maxLen/\((EA j).length+2)*24<=140737488355328 from by rw[Ny];have:=HQ.out;unfold maxLen;omega);clear ho2 hu2 hg1 hg2;go_wp2_with(at_builtin;refine wpList_append_lies _ rfl (.tmp 13) (.tmp 14) 103 rfl w1.heap.size 152 i0 (.agg #[(),(),()]) 3 24 Tryz.underlying103 HI HZ0 HZ1 HZ2 rfl AQ _ (EA j).length ((EA j).flatMap stripL) rfl o7 ⟨g,0,none⟩ 2 cap (IU.flatMap stripL) rfl rfl HN (Ns _) AQ HB.1 HB.2 IK.size _ rfl ?_;intro g1 yK w6 hown6 hg hor yL)
   have OJ:=I (show BK w6 w1.heap.size (BG g1 0 ((EA j).length+2) yK) (EA (j+1))/\Up w1 w6 from by
    refine⟨?_,show Below w1.heap.size w1 w6 from Below.grown IK hg IK.size (DS o7)⟩;unfold BK;show w6.ownsRow _ _ _ _ (EA j++IU).length ((EA j++IU).flatMap stripL);rw[Gx,Y8]
    exact hown6)
   clear hown6 hg hor yL
   go_wp2
   go_roundw
   case rel=>exact⟨j+1,J,by go_num,OJ⟩
   case measure=>simp[intOf];omega
  .obtain rfl:j=q:=J;clear hlt
   go_wp2
   go_ret;exact⟨⟨_,rfl,HO.1⟩,HO.2⟩
theorem Xh(n:tyN)(w:tyW)(hn:2<=n/\n<=8):Calls Tryz.prog 135 #[n] w λe w'=>(∃v,e=BA v/\BK w' w.heap.size v (EA (EC n*n)))/\Up w w':=by
 obtain⟨i0,hi,hz0,hz1,hz2⟩:=info_parts EG;have HI:=I hi;have HZ0:=I hz0;have HZ1:=I hz1;have HZ2:=I hz2;have jP:=I (λW=>Pa n W J);have Sc:=I (FK n w J);have HQ:=I (And.intro (cY hn.1) (RB hn.2));have rz:=I hn;clear hi hz0 hz1 hz2;generalize EC n=q at*;go_enter Tryz.func135,Tryz.ntmps135;go_wp2_with fail;refine Sc.mono ?_;rintro e w1 ⟨rfl,rfl⟩;go_wp2_with fail
 go_loopw[3,6] (λu v wr=> ∃(j:tyN),j<=n/\v=O j/\Hid (BK wr w1.heap.size u (EA (q*j))/\Up w1 wr)) (λ_ v _=>n-(intOf v).toNat)
 case atStart=>exact⟨0,J,rfl,I ⟨⟨rfl,.inl ⟨rfl,rfl⟩⟩,AV _⟩⟩
 case round=>
  obtain⟨j,hj,rfl,HO⟩:=hrel;by_cases hlt:j<n
  .have hji:(j:tyI)<n:=J;go_wp2_with fail;refine(jP _).mono ?_;rintro e w2 ⟨⟨v2,rfl,ho2⟩,hu2⟩;have h0:0<(EA q).length:=by rw[Ny];have:=HQ.out.1;omega
   obtain⟨g,cap,rfl,hg1,hg2⟩:=World.ownsRow.form ho2 h0;have HN:=I (λj u h=>tW ho2 (g:=g) rfl j u h);have o7:=I (BK.up HO.1 hu2);have IK:=I (HO.2.trans hu2);have hjq:2*(q*j)<=2*(49*8):=LZ (A9 _) (LZ HQ.2 (by have:=rz.out;omega));have HB:=I (show(EA (q*j)).length+(EA q).length<=maxLen/\((EA (q*j)).length+(EA q).length)*24<=140737488355328 from by rw[Ny,Ny];have:=HQ.out.2;unfold maxLen;omega);have HP:=I h0;clear ho2 hu2 hg1 hg2 hjq h0;go_wp2_with(at_builtin;refine wpList_append_lies _ rfl (.tmp 8) (.tmp 10) 103 rfl w1.heap.size 152 i0 (.agg #[(),(),()]) 3 24 Tryz.underlying103 HI HZ0 HZ1 HZ2 rfl AQ _ (EA (q*j)).length ((EA (q*j)).flatMap stripL) rfl o7 ⟨g,0,none⟩ (EA q).length cap ((EA q).flatMap stripL) rfl (kP _) HN (Ns _) HP HB.1 HB.2 IK.size _ rfl ?_;intro g1 yK w6 hown6 hg hor yL)
   have OJ:=I (show BK w6 w1.heap.size (BG g1 0 ((EA (q*j)).length+(EA q).length) yK) (EA (q*(j+1)))/\Up w1 w6 from by
    refine⟨?_,show Below w1.heap.size w1 w6 from Below.grown IK hg IK.size (DS o7)⟩;rw[Nat.mul_succ,Wm];unfold BK;rw[Gx,Y8]
    exact hown6)
   clear hown6 hg hor yL
   go_wp2
   go_roundw
   case rel=>exact⟨j+1,J,by go_num,OJ⟩
   case measure=>simp[intOf];omega
  .obtain rfl:j=n:=J;clear hlt
   go_wp2
   go_ret;exact⟨⟨_,rfl,HO.1⟩,HO.2⟩
end
section
open Go.RowKit
def Jh (b:tyI)(m:tyN):Op RD:=YM b ((List.range m).reverse.map λj=>(j,false))
theorem XR(b:tyI)(m:tyN):Jh b (m+1)= .ask (2,b+(m:tyI),I8 m false) λ_=>Jh b m:=by
 unfold Jh;rw[MQ,List.reverse_append];rfl
theorem Zc(k b lo n wr rd tp:tyI)(v:tyN)(g B:tyN)(s:TS)(w:tyW)(h:AX w g B s)(hb:0<=b/\b<=900000)(hl:0<=lo/\lo<=900000)(hv:(v:tyI)<=tp/\tp<=255)
  (hE:((YM b (Mn v)).sub (RW b lo)).BH s=R):
  Calls Tryz.prog 259 #[pT g,.agg #[k,b,lo,n,wr,rd,tp],v] w (Goes g B w R Kf λ_=>(.ret (0,0):Op RD)):=by
 obtain⟨W0,hW,HT,HU,-,HS⟩:=Cr h k b lo n wr rd tp;have Y3:=I (λW=>Ls tp W ⟨J,J⟩);have sX:=I (λ(α:Type) (F:Int->Op α) R (i:tyN) up s W hT (hi:i<=255) hE=>kE (F:=F) (R:=R) k b lo n wr rd tp i up g B s W hT hb hl hi hE);have HE:=I (show((Op.ask (2,b+(v:tyI),I8 v true) λ_=>Jh b v).sub (RW b lo)).BH s=R from hE);have HV:=I (show v<=255 from J);have z1:(if(v:tyI)<tp then(v:tyI)else tp)=v:=by split<;>omega
 have z2:(if(0:tyI)<v then(v:tyI)else 0)=v:=by split<;>omega
 have z3:min (v:tyI) tp=v:=J;have z4:max 0 (v:tyI)=v:=J;clear hE h hb hl hv;obtain⟨⟨c0,c1,c2,c3⟩,c4,c5,c6⟩:=HS W0 (TK.refl g B W0);go_enter Tryz.func259,Tryz.ntmps259;go_upto_region 1 with fail;go_wp2_with fail;refine(Y3 _).mono ?_;rintro e w1 ⟨rfl,rfl⟩;go_wp2_with fail;refine(sX RD (λ_=>Jh b v) R v true s _ HT HV HE).mono ?_;rintro e w2 (⟨s2,rfl,H2,K2,E2⟩|⟨x,s2,rfl,H2,K2,E2⟩)
 .go_wp2
  exact⟨rfl,.inl ⟨s2,rfl,H2,I (HU.trans K2.out),E2⟩⟩
 unfold Kf;clear c0 c1 c2 c3 c4 c5 c6 HE Y3 z1 z2 z3 z4;go_wp2_with fail
 go_loopw[18] (λt wz=> ∃(i:tyN) (s':TS),i<=v/\t=O i/\Hid (AX wz g B s')/\Hid (TK g B w1 wz)/\Hid (((Jh b (v-i)).sub (RW b lo)).BH s'=R)) (λt _=>v-(intOf t).toNat)
 case atStart=>exact⟨0,s2,J,rfl,H2,K2,E2⟩
 case round=>
  obtain⟨i,s',hi,rfl,HTr,sY,HDr⟩:=hrel;by_cases hlt:i<v
  .obtain⟨⟨c0,c1,c2,c3⟩,c4,c5,c6⟩:=HS _ sY;obtain⟨m,hm⟩:∃m,v-i=m+1:=⟨v-i-1,J⟩;have HDR:=I (show((Op.ask (2,b+(m:tyI),I8 m false) λ_=>Jh b m).sub (RW b lo)).BH s'=R from by rw[<-XR,<-hm];exact HDr);have hv:=HV.out;have y2:(v:tyI)-1-(i:tyI)=(m:tyI):=J;have hki:(i:tyI)<v:=J;go_wp2_with fail;refine(sX RD (λ_=>Jh b m) R m false s' _ HTr J HDR).mono ?_;rintro e w3 (⟨s3,rfl,H3,K3,E3⟩|⟨x,s3,rfl,H3,K3,E3⟩)
   .go_wp2
    exact⟨rfl,.inl ⟨s3,rfl,H3,I (HU.trans (sY.trans K3.out)),E3⟩⟩
   have K4:=I (sY.trans K3.out);have E4:=I (show((Jh b (v-(i+1))).sub (RW b lo)).BH s3=R from by rw[show v-(i+1)=m by omega];exact E3.out);unfold Kf;clear c0 c1 c2 c3 c4 c5 c6 hm y2
   go_wp2
   go_roundw
   case rel=>exact⟨i+1,s3,J,by go_num,H3,K4,E4⟩
   case measure=>simp[intOf];omega
  .obtain rfl:i=v:=J;have HF:=I (show(Op.ret (0,0):Op RD).BH s'=R by rw[<-HDr,VN];rfl);clear hlt;go_wp2_with fail
   go_end0
   exact .inr ⟨0,s',rfl,HTr,I (HU.trans sY),HF⟩
theorem iA(k b lo n wr rd:tyI)(tp:tyN)(g B:tyN)(s:TS)(w:tyW)(h:AX w g B s)(hb:0<=b/\b<=900000)(hl:0<=lo/\lo<=900000)(hv:tp<=255)
  (hE:((IF b tp (tp+1) 0).sub (RW b lo)).BH s=R):
  Calls Tryz.prog 253 #[pT g,.agg #[k,b,lo,n,wr,rd,tp]] w (Goes g B w R encI λx=>(.ret (0,x):Op RD)):=by
 obtain⟨W0,hW,HT,HU,-,HS⟩:=Cr h k b lo n wr rd tp;have Y3:=I (λW=>Ls tp W ⟨J,J⟩);have sC:=I (λ(F:Bool->Op RD) (i:tyN) s W hT (hi:i<=255) hE=>pX (F:=F) (R:=R) k b lo n wr rd tp i g B s W hT hb hl hi hE);have HE:=I hE;have HV:=I hv;have y1:wrap64 ((tp:tyI)+1)=(tp:tyI)+1:=IntWalk.wrap64_in _ J;clear hE h hb hl hv;obtain⟨⟨c0,c1,c2,c3⟩,c4,c5,c6⟩:=HS W0 (TK.refl g B W0);go_enter Tryz.func253,Tryz.ntmps253;go_wp2_with fail;refine(Y3 _).mono ?_;rintro e w1 ⟨rfl,rfl⟩;clear c0 c1 c2 c3 c4 c5 c6;go_wp2_with fail;rw[y1]
 go_loopw[12] (λt wz=> ∃(i:tyN) (s':TS),i<=tp+1/\t=O i/\Hid (AX wz g B s')/\Hid (TK g B w1 wz)/\Hid (((IF b tp (tp+1-i) i).sub (RW b lo)).BH s'=R)) (λt _=>tp+1-(intOf t).toNat)
 case atStart=>exact⟨0,s,J,rfl,HT,I (TK.refl _ _ _),HE⟩
 case round=>
  obtain⟨i,s',hi,rfl,HTr,sY,HDr⟩:=hrel;by_cases hlt:i<tp+1
  .obtain⟨⟨c0,c1,c2,c3⟩,c4,c5,c6⟩:=HS _ sY;obtain⟨m,hm⟩:∃m,tp+1-i=m+1:=⟨tp-i,J⟩;have HDR:=I (show((Op.ask (1,b+(i:tyI),0) λx=>(λu:Bool=>if u=true then(.ret (0,(i:tyI)):Op RD)else IF b tp m (i+1)) (Pk i x)).sub (RW b lo)).BH s'=R from by rw[<-HDr,hm];rfl);have hv:=HV.out;have hki:(i:tyI)<(tp:tyI)+1:=J;go_wp2_with fail;refine(sC (λu=>if u=true then .ret (0,(i:tyI))else IF b tp m (i+1)) i s' _ HTr J HDR).mono ?_;rintro e w3 (⟨s3,rfl,H3,K3,E3⟩|⟨u,s3,rfl,H3,K3,E3⟩)
   .go_wp2
    exact⟨rfl,.inl ⟨s3,rfl,H3,I (HU.trans (sY.trans K3.out)),E3⟩⟩
   have K4:=I (sY.trans K3.out);unfold AAr;clear c0 c1 c2 c3 c4 c5 c6 HDR;cases u
   .have E4:=I (show((IF b tp (tp+1-(i+1)) (i+1)).sub (RW b lo)).BH s3=R from by rw[show tp+1-(i+1)=m by omega];exact E3.out);clear hm
    go_wp2
    go_roundw
    case rel=>exact⟨i+1,s3,J,by go_num,H3,K4,E4⟩
    case measure=>simp[intOf];omega
   .go_wp2
    go_ret;exact .inr ⟨i,s3,rfl,H3,I (HU.trans K4.out),I E3.out⟩
  .obtain rfl:i=tp+1:=J;have HF:=I (show(Op.ret (0,(tp:tyI)):Op RD).BH s'=R by rw[<-HDr,VN];rfl);clear hlt
   go_wp2
   go_ret;exact .inr ⟨tp,s',rfl,HTr,I (HU.trans sY),HF⟩
def rdF (k:tyI):Nat:=if k=2 then 252 else if k=3 then 253 else if k=4 then 254 else if k=5 then 255 else if k=6 then 256 else 257
def wrF (k:tyI):Nat:=if k=2 then 258 else if k=3 then 259 else if k=4 then 260 else if k=5 then 261 else if k=6 then 262 else 263
def rwA (k:tyI)(p r me:tyV)(v:List Value):Array Value:=if k<=5 then(p::r::v).toArray else(p::r::me::v).toArray
variable {α:Type}
def Ds (k:tyI):Prop:=k=2\/k=3\/k=4\/k=5\/k=6\/k=7
theorem ff{R:Option α×TS}{F:Int->Op α}(k b lo n wr rd tp me:tyI)(hk:Ds k)(g B:tyN)(s:TS)(w:tyW)(h:AX w g B s)
  (HC:∀W,AX W g B s->Calls Tryz.prog (rdF k) (rwA k (pT g) (.agg #[k,b,lo,n,wr,rd,tp]) me []) W (Goes g B W R encI F)):
  Calls Tryz.prog 227 #[pT g,.agg #[k,b,lo,n,wr,rd,tp],me] w (Goes g B w R encI F):=by
 obtain⟨W0,hW,HT,HU,-,HS⟩:=Cr h k b lo n wr rd tp;obtain⟨⟨c0,c1,c2,c3⟩,c4,c5,c6⟩:=HS W0 (TK.refl g B W0);have HC:=I (HC W0 HT);clear h HS;rcases hk with rfl|rfl|rfl|rfl|rfl|rfl
 all_goals
  go_enter Tryz.func227,Tryz.ntmps227;go_wp2_with fail;refine HC.mono ?_;rintro e w2 (⟨s2,rfl,H2,K2,E2⟩|⟨x,s2,rfl,H2,K2,E2⟩)
  .go_wp2
   exact⟨rfl,.inl ⟨s2,rfl,H2,I (HU.trans K2.out),E2⟩⟩
  unfold encI
  go_wp2
  go_ret;exact .inr ⟨x,s2,rfl,H2,I (HU.trans K2.out),E2⟩
theorem Zg{R:Option α×TS}{F:Int->Op α}(k b lo n wr rd tp me v:tyI)(hk:Ds k)(g B:tyN)(s:TS)(w:tyW)(h:AX w g B s)
  (HC:∀W,AX W g B s->Calls Tryz.prog (wrF k) (rwA k (pT g) (.agg #[k,b,lo,n,wr,rd,tp]) me [v]) W (Goes g B W R Kf F)):
  Calls Tryz.prog 229 #[pT g,.agg #[k,b,lo,n,wr,rd,tp],me,v] w (Goes g B w R Kf F):=by
 obtain⟨W0,hW,HT,HU,-,HS⟩:=Cr h k b lo n wr rd tp;obtain⟨⟨c0,c1,c2,c3⟩,c4,c5,c6⟩:=HS W0 (TK.refl g B W0);have HC:=I (HC W0 HT);clear h HS;rcases hk with rfl|rfl|rfl|rfl|rfl|rfl
 all_goals
  go_enter Tryz.func229,Tryz.ntmps229;go_wp2_with fail;refine HC.mono ?_;rintro e w2 (⟨s2,rfl,H2,K2,E2⟩|⟨x,s2,rfl,H2,K2,E2⟩)
  .go_wp2
   exact⟨rfl,.inl ⟨s2,rfl,H2,I (HU.trans K2.out),E2⟩⟩
  unfold Kf;go_wp2_with fail
  go_end0
  exact .inr ⟨x,s2,rfl,H2,I (HU.trans K2.out),E2⟩
end
section
open Go.RowKit
def AEs (h:tyN)(o:GU)(w:tyW):Prop:=(V w h 14 o.rg.kind/\V w h 15 o.rg.base/\V w h 16 o.rg.loc/\V w h 17 o.rg.n)/\V w h 18 o.rg.writer/\V w h 19 o.rg.reader/\V w h 20 o.rg.top
theorem TD{g B:tyN}{s:TS}(h:AX w g B s)(o:GU):∃W,(w.alloc (Y (Ob o) 132)).alloc (Y #[(),()] 58)=W/\Hid (AX W g B s)/\Hid (Up w W)/\Hid (g<w.heap.size)/\
  Hid (∀w',TK g B W w'->AEs w.heap.size o w'/\BR w' (w+1) #[(),()] 58):=by
 have hb:=Ah w (Y (Ob o) 132);have hu:Up w (w.alloc (Y (Ob o) 132)):=(AV w).alloc _;have hu2:Up (w.alloc (Y (Ob o) 132)) ((w.alloc (Y (Ob o) 132)).alloc (Y #[(),()] 58)):=(AV _).alloc _;have hb1:=(hu2.block w.heap.size Az).trans hb;have hb2:=Ah (w.alloc (Y (Ob o) 132)) (Y #[(),()] 58);rw[Cy]at hb2;have hg:=h.1.gs;refine⟨_,rfl,I (h.up (hu.trans hu2)),I (hu.trans hu2),I hg,I λw' k=>?_⟩;have h1:=k.kept hb1 J AQ;have h2:=k.kept hb2 J AQ;exact⟨⟨⟨Ar _ _ 14 _ _ _ h1,Ar _ _ 15 _ _ _ h1,Ar _ _ 16 _ _ _ h1,Ar _ _ 17 _ _ _ h1⟩,Ar _ _ 18 _ _ _ h1,Ar _ _ 19 _ _ _ h1,Ar _ _ 20 _ _ _ h1⟩,h2⟩
theorem J1{w3:tyW}{g B:tyN}{s3:TS}{x y:tyI}(hb:BR w3 (w+1) #[(),()] 58)(hg:g<w.heap.size)(ht:AX w3 g B s3)(hk:TK g B w w3)(hE:(.ret (x,y):Op RD).BH s3=R):AP encR g B w R (.returned (encR (x,y))) (CY w3 (w.heap.size+1) x y):=
 AP.some hE.symm ⟨rfl,ht.far hb J AQ (Jq (FM _ _ _ _).symm) λk hk _=>B8 w3 _ k _ _ hk,TK.Rb hk _ _ J⟩
theorem eU(o:GU)(arg me:tyI)(op:Op RD)(g B:tyN)(s:TS)(w:tyW)(h:AX w g B s)(hm:0<=me)
  (HR:PX o.rg me=true->∀W,AX W g B s->Calls Tryz.prog 227 #[pT g,Gt o.rg,me] W (Goes g B W (op.BH s) encI λx=>(.ret (0,x):Op RD))):
  Calls Tryz.prog 167 #[pT g,MG o,arg,me] w (AP encR g B w ((if PX o.rg me=true then op else .ret (9,0)).BH s)):=by
 obtain⟨W0,hW,HT,HU,HG,HS⟩:=TD h o;have HM:=I λW=>XU o.rg me W hm
 obtain⟨y,hy⟩:=gX (PX o.rg me);rw[hy]at HR HM;rw[hy];have HR':=I HR;unfold Gt at HM HR';unfold MG;unfold Ob at hW|-;clear h hm hy HR;obtain⟨⟨⟨c0,c1,c2,c3⟩,c4,c5,c6⟩,hb⟩:=HS W0 (TK.refl g B W0);have k0:=cI hb 0;have k1:=cI hb 1;have f0:=fI hb 0;have f1:=fI hb 1;have HB3:=I hb;clear hb;cases y
 all_goals
  go_enter Tryz.func167,Tryz.ntmps167;go_wp2_with fail;refine(HM _).mono ?_;rintro e w2 ⟨rfl,hu2⟩;have HT2:=I (HT.up hu2);have Kq:=I (TK.Bp (g:=g) (B:=B) hu2);clear c0 c1 c2 c3 c4 c5 c6 k0 k1 f0 f1 HB3;clear hu2;obtain⟨⟨⟨c0,c1,c2,c3⟩,c4,c5,c6⟩,hb⟩:=HS w2 Kq;have k0:=cI hb 0;have k1:=cI hb 1;have f0:=fI hb 0;have f1:=fI hb 1;have HB3:=I hb;clear hb
 .go_wp2_with fail;refine Gz (v:=encR (9,0)) ?_ rfl (J1 HB3 HG HT2 ((TK.Bp HU).trans Kq) rfl);exact GV rfl _ _ (w.heap.size+1) 58 _ _ _ rfl (Cp (O 9) () HB3) Tryz.underlying58 rfl Ay
 .go_wp2_with fail;refine(HR' Az _ HT2).mono ?_;rintro e w3 (⟨s3,rfl,H3,K3,E3⟩|⟨x,s3,rfl,H3,K3,E3⟩)
  .go_wp2
   exact⟨rfl,AP.none E3.out ⟨rfl,H3,(TK.Bp HU).trans (Kq.trans K3.out)⟩⟩
  unfold encI;clear c0 c1 c2 c3 c4 c5 c6 k0 k1 f0 f1 HB3;obtain⟨⟨⟨c0,c1,c2,c3⟩,c4,c5,c6⟩,hb⟩:=HS w3 (Kq.trans K3.out);have k0:=cI hb 0;have k1:=cI hb 1;have f0:=fI hb 0;have f1:=fI hb 1;have HB3:=I hb;clear hb;go_wp2_with fail;refine Gz (v:=encR (0,x)) ?_ rfl (J1 HB3 HG H3 ((TK.Bp HU).trans (Kq.trans K3.out)) E3.out);exact GV rfl _ _ (w.heap.size+1) 58 _ _ _ rfl (Cp () x HB3) Tryz.underlying58 rfl Ay
theorem Z1(o:GU)(arg me:tyI)(op:Op RD)(g B:tyN)(s:TS)(w:tyW)(h:AX w g B s)(hm:0<=me)(hk:2<=o.rg.kind/\o.rg.kind<=7)(ha:0<=arg/\arg<=o.rg.top)
  (HR:Nb o.rg me=true->∀W,AX W g B s->Calls Tryz.prog 229 #[pT g,Gt o.rg,me,arg] W (Goes g B W (op.BH s) Kf λ_=>(.ret (0,0):Op RD))):
  Calls Tryz.prog 168 #[pT g,MG o,arg,me] w (AP encR g B w ((if Nb o.rg me=true then op else .ret (9,0)).BH s)):=by
 obtain⟨W0,hW,HT,HU,HG,HS⟩:=TD h o;have HM:=I λW=>VQ o.rg me W hm hk
 obtain⟨y,hy⟩:=gX (Nb o.rg me);rw[hy]at HR HM;rw[hy];have HR':=I HR;unfold Gt at HM HR';unfold MG;unfold Ob at hW|-;have a1:¬arg<0:=J;have a2:¬o.rg.top<arg:=J;have a3:(arg>o.rg.top)=False:=by simp;omega
 clear hk ha;clear h hm hy HR;obtain⟨⟨⟨c0,c1,c2,c3⟩,c4,c5,c6⟩,hb⟩:=HS W0 (TK.refl g B W0);have k0:=cI hb 0;have k1:=cI hb 1;have f0:=fI hb 0;have f1:=fI hb 1;have HB3:=I hb;clear hb;cases y
 all_goals
  go_enter Tryz.func168,Tryz.ntmps168;go_wp2_with fail;refine(HM _).mono ?_;rintro e w2 ⟨rfl,hu2⟩;have HT2:=I (HT.up hu2);have Kq:=I (TK.Bp (g:=g) (B:=B) hu2);clear c0 c1 c2 c3 c4 c5 c6 k0 k1 f0 f1 HB3;clear hu2;obtain⟨⟨⟨c0,c1,c2,c3⟩,c4,c5,c6⟩,hb⟩:=HS w2 Kq;have k0:=cI hb 0;have k1:=cI hb 1;have f0:=fI hb 0;have f1:=fI hb 1;have HB3:=I hb;clear hb
 .go_wp2_with fail;refine Gz (v:=encR (9,0)) ?_ rfl (J1 HB3 HG HT2 ((TK.Bp HU).trans Kq) rfl);exact GV rfl _ _ (w.heap.size+1) 58 _ _ _ rfl (Cp (O 9) () HB3) Tryz.underlying58 rfl Ay
 .go_wp2_with fail;refine(HR' Az _ HT2).mono ?_;rintro e w3 (⟨s3,rfl,H3,K3,E3⟩|⟨x,s3,rfl,H3,K3,E3⟩)
  .go_wp2
   exact⟨rfl,AP.none E3.out ⟨rfl,H3,(TK.Bp HU).trans (Kq.trans K3.out)⟩⟩
  unfold Kf;clear c0 c1 c2 c3 c4 c5 c6 k0 k1 f0 f1 HB3;obtain⟨⟨⟨c0,c1,c2,c3⟩,c4,c5,c6⟩,hb⟩:=HS w3 (Kq.trans K3.out);have k0:=cI hb 0;have k1:=cI hb 1;have f0:=fI hb 0;have f1:=fI hb 1;have HB3:=I hb;clear hb;go_wp2_with fail;refine Gz (v:=encR (0,0)) ?_ rfl (J1 HB3 HG H3 ((TK.Bp HU).trans (Kq.trans K3.out)) E3.out);exact GV rfl _ _ (w.heap.size+1) 58 _ _ _ rfl (Cp () () HB3) Tryz.underlying58 rfl Ay
theorem RM{β γ:Type}:∀(W:List (β×List γ)),(∀z,z∈W->z.2=[]\/∃u,z.2=[u])->(W.flatMap Prod.snd).length<=W.length
 |[],_=>A9 _
 |z::W,h=>by
  have:=RM W λy hy=>h y (.tail _ hy)
  rw[It,Gx,Qy];rcases h z (.head _)with e|⟨u,e⟩
  .rw[e,Rn];omega
  .rw[e,IN];omega
theorem Fu.su{o:Op Int}(h:Fu o)(x:tyI):o≠ .ret x:=λe=>by
 subst e;rcases h [] [] [] (.ret x) (.nil _ _)with⟨_,q⟩|⟨a,b,e,y,L',q⟩
 .exact q x rfl
 .cases q
variable {M:MD}{AH:List (List CD)}{H:List Au}{C:Nat->List GC}
theorem CC.len(h:CC M AH H C){t:tyN}(ht:t<AH.length):(C t).length<=(AH.getD t []).length:=by
 refine Nat.le_of_not_lt λhgt=>?_
 have:=(h.call t ht (AH.getD t []).length _ (gG hgt)).lt;omega
theorem CC.clock(h:CC M AH H C)(hF:Si H)(hn:∀A,A∈H->A.now<=4000):Clock (IW AH C) H.length λp=>(EM H p).toNat:=by
 have at':∀p A,H[p]?=some A->(EM H p).toNat=A.now:=λp A hA=>by unfold EM;rw[hA];rfl
 refine⟨λp q hpq hq=>?_,λt a b e x ⟨i,hi⟩ he=>?_,λt t' a a' b e b' e' x x' ⟨i,hi⟩ ⟨i',hi'⟩ hne hlt hN=>?_,λp hp=>?_⟩
 .have:=Hp h.O7 hpq hq;omega
 .obtain⟨⟨n1,q1⟩,_,h3,_,h5⟩:=h.acc hi;obtain⟨⟨n2,q2⟩,_⟩:=h5 he;rw[at' _ _ q1,at' _ _ q2];exact hF b e _ _ h3 q1 q2 rfl
 .obtain⟨⟨n1,q1⟩,_⟩:=h.acc hi;obtain⟨⟨n2,q2⟩,_⟩:=h.acc hi';rw[at' _ _ q1,at' _ _ q2];exact(h.O7 b b' _ _ hlt q1 q2).2 hne (λe=>by cases e)
 .rw[at' _ _ (gG hp)];exact hn _ (KD hp)
def mnO (b:tyI):CD->Op RD:=FH true true (XQ b) λv=> .ask (2,b,v) λ_=> .ret (0,0)
theorem UM(h:CC M AH H C)(hT:Si H)(FU:∀A,A∈H->A.now<=4000)(hF:EE M){n:tyN}(hn2:2<=n)(hn:AH.length=n){top:tyI}(htop:0<=top/\top<=255)(hlo:0<=lo/\BD lo n n<=32768)(hP:∀t c,M.P t c=(mnO b c).sub (aX b lo n top t))
  (hs:∀c,b<=c->c<AO b n n->RP M c (if(c-b)%16<4 then Bo else 1)) (hv:∀t i,(AN AH t i).1=16->0<=(AN AH t i).2.2/\(AN AH t i).2.2<=top) (hlen:∀t,(AH.getD t []).length<=500000):∃tag Gw,Vj AH C tag Gw:=by
 obtain⟨W,w1,w2,w3,hU⟩:=h.reg (g:=aX b lo n top) (T:=λ_=>mnO b) (λt a x=>(XX hn2).su x) hP (rg:=λi=>lo<=i/\i<BD lo n n) (λi hi=>J) λt c i _=>by
  refine GA ?_ ?_ c
  .exact λ_=>trivial
  .exact λv _=>trivial
 have one:∀(t i:tyN) (c:GC) (K:List Ch),(W t)[i]?=some (c,K)->c.fine/\JZ AH H.length t i c K/\∀u,u∈K->u.a.1≠1->0<=u.a.2.2/\u.a.2.2<=top:=λt i c K hm=>by
  obtain⟨ht,hc,o',l',d,hres⟩:=w3 t i c K hm;unfold mnO FH at d;by_cases h16:(AN AH t i).1=16
  .rw[AK h16,AK rfl]at d;obtain⟨q1,q2,q3⟩:=GM h ht hc (φ:=λ_=>0) d (λp e v q=>(hres p e v q).1) (λx=> .inl ⟨_,rfl,rfl,rfl⟩) (by simp[h16]) (λ_=>rfl) λe=>by cases e
   exact⟨q1,q2,λu hu _=>by rw[(q3 u hu).1];exact hv t i h16⟩
  .rw[AI h16,AK rfl]at d;obtain⟨q1,q2,q3⟩:=GM h ht hc (φ:=id) d (λp e v q=>(hres p e v q).1) (λx=> .inl ⟨_,rfl,rfl,rfl⟩) (by simp[h16]) (λe=>absurd rfl e) λ_ x=>rfl
   exact⟨q1,q2,λu hu hne=>by rw[(q3 u hu).1]at hne;exact absurd rfl hne⟩
 obtain⟨tag,Gw,hM⟩:=mg hn2 htop hlo hU (λi q1 q2=>⟨q1,q2⟩) (λc _ _=>trivial) (λt ht=>by rw[w2 t J];rfl) (λt u hu hne=>by
  obtain⟨i,c,K,hm,hK⟩:=of_flat hu;exact(one t i c K hm).2.2 u hK hne) (λt=>by
  rcases CR t AH.length with ht|ht
  .have h1:=h.len ht;have h2:=hlen t;rw[<-w1 t ht,Ca]at h1;refine DB (RM (W t) λz hz=>?_) (DB h1 h2);obtain⟨i,hi,ei⟩:=Dj hz;rcases(one t i z.1 z.2 (by rw[gG hi,ei])).2.1 with⟨q,_⟩|⟨u,q,_⟩
   .exact .inl q
   .exact .inr ⟨u,q⟩
  .rw[w2 t ht];exact DV _) (λt t' a a' b e e' x x'=>IW.uni h) (h.clock hT FU) λc q1 q2=>h.Oe hF (hs c q1 q2).1 (hs c q1 q2).2
 exact qd hM w1 w2 λt i c K ht hm=>⟨(one t i c K hm).1,(one t i c K hm).2.1⟩
end
section
open Go.RowKit
variable {M:MD}{AH:List (List CD)}{H:List Au}{C:Nat->List GC}
def XA (b lo:tyI)(w t:tyN):Op RD:=if t=w then .get (lo+1) λx=> .ret (0,x)else XQ b
def qJ (b lo v:tyI):Op RD:= .ask (2,b,v) λ_=> .set (lo+1) v (.ret (0,0))
def yo (b lo:tyI)(w t:tyN):CD->Op RD:=FH true (decide (t=w)) (XA b lo w t) (qJ b lo)
theorem R8(h:CC M AH H C)(hA:Sx M AH C)(hF:EE M){n w:tyN}(hn2:2<=n)(hn:AH.length=n)(hw:w<n){top:tyI}(htop:0<=top/\top<=1048576)(hlo:0<=lo/\lo+(2+18*(((n-1)*(n-1):tyN):tyI))<=32768)(hP:∀t c,M.P t c=(yo b lo w t c).sub (RX b lo n w top t))
  (hs:∀c,b<=c->c<b+16*(((n-1)*(n-1):tyN):tyI)->RP M c (if(c-b)%16<4 then Bo else 1)) (hv:∀t i,(AN AH t i).1=16->0<=(AN AH t i).2.2/\(AN AH t i).2.2<=top) (hlen:∀t,(AH.getD t []).length<=500000):∃tag Gw,Vj AH C tag Gw:=by
 obtain⟨q2,hq2⟩:∃q:Nat,(n-1)*(n-1)=q:=⟨_,rfl⟩;have hlo1:0<=lo+1/\lo+1<32768:=by rw[hq2]at hlo;omega
 have hwp:w<AH.length:=J
 obtain⟨W,w1,w2,w3,hU⟩:=h.reg (g:=RX b lo n w top) (T:=yo b lo w) (λt a x=>(LK hn2).su x) hP (rg:=λi=>(lo<=i/\i<lo+(2+18*(((n-1)*(n-1):tyN):tyI)))/\i≠lo+1) (λi hi=>by rw[hq2]at hi hlo;omega) λt c i hi=>by
  refine GA ?_ ?_ c
  .unfold XA;split
   .exact λ_=>trivial
   .exact λ_=>trivial
  .exact λv x=>⟨λe=>hi.2 e.symm,trivial⟩
 have wr:∀(i:tyN) (c:GC) (K:List Ch),(W w)[i]?=some (c,K)->(AN AH w i).1=16->c.fine/\JZ AH H.length w i c K/\(∀u,u∈K->u.a=(2,b,(AN AH w i).2.2)/\u.fb<=u.e H.length)/\(c.res≠none->Ac c.out (lo+1)=(AN AH w i).2.2):=λi c K hm h16=>by
  obtain⟨ht,hc,o',l',d,hres⟩:=w3 w i c K hm;unfold yo FH at d;rw[AK h16,Fi rfl,AK rfl]at d;unfold qJ at d;obtain⟨q1,q2,q3⟩:=GM h ht hc (φ:=λ_=>0) d (λp e v q=>(hres p e v q).1) (λx=> .inr ⟨_,_,_,rfl,rfl,rfl⟩) (by simp[h16]) (λ_=>rfl) λe=>by cases e
  refine⟨q1,q2,λu hu=>⟨(q3 u hu).1,(q3 u hu).2.2⟩,λq=>?_⟩;cases er:c.res with
  |none=>exact absurd er q
  |some x=>
   obtain⟨r1,r2⟩:=hres x.1 x.2.1 x.2.2 er;rcases d.Ba with⟨_,_,e⟩|⟨_,_,_,_,_,e⟩|⟨L1,L2,K2,l1,y,_,_,e3,e4⟩
   .exact absurd r1 (e _)
   .exact absurd r1 (e _)
   .rcases e4.G7 with⟨_,_,e⟩|e4
    .exact absurd r1 (e _)
    .rw[r2,F7 _ hlo1.1,e4.BV.2.2.2,CG _ _ _ _ hlo1,AK rfl]
 have own:∀(i:tyN) (c:GC) (K:List Ch),(W w)[i]?=some (c,K)->(AN AH w i).1≠16->c.fine/\K=[]/\(∀p e v,c.res=some (p,e,v)->v=Ac c.loc (lo+1))/\(c.res≠none->Ac c.out (lo+1)=Ac c.loc (lo+1)):=λi c K hm h16=>by
  obtain⟨ht,hc,o',l',d,hres⟩:=w3 w i c K hm;unfold yo FH XA at d;rw[AI h16,AK rfl,AK rfl]at d;rcases d.Ed with⟨_,g1,g2⟩|d
  .have er:c.res=none:=by
    cases er:c.res with
    |none=>rfl
    |some x=>exact absurd (hres x.1 x.2.1 x.2.2 er).1 (g2 _)
   exact⟨λp e v q=>(by rw[er]at q;cases q),g1,λp e v q=>(by rw[er]at q;cases q),λq=>absurd er q⟩
  .obtain⟨_,g2,g3,g4⟩:=d.BV
   have eq:∀p e v,c.res=some (p,e,v)->((0,Ac c.loc (lo+1)):RD)=(e,v):=λp e v q=>by
    have:=(hres p e v q).1;rw[g3]at this;exact Op.ret.inj this
   refine⟨λp e v q=>(DJ Prod.fst (eq p e v q)).symm,g2,λp e v q=>(DJ Prod.snd (eq p e v q)).symm,λq=>?_⟩;cases er:c.res with
   |none=>exact absurd er q
   |some x=>rw[(hres x.1 x.2.1 x.2.2 er).2,g4,F7 _ hlo1.1]
 have rd:∀(t i:tyN) (c:GC) (K:List Ch),t≠w->(W t)[i]?=some (c,K)->(AN AH t i).1≠16->c.fine/\JZ AH H.length t i c K/\∀u,u∈K->u.a=(1,b,0):=λt i c K EW hm h16=>by
  obtain⟨ht,hc,o',l',d,hres⟩:=w3 t i c K hm;unfold yo FH XA at d;rw[AI h16,AK rfl,AI EW]at d;obtain⟨q1,q2,q3⟩:=GM h ht hc (φ:=id) d (λp e v q=>(hres p e v q).1) (λx=> .inl ⟨_,rfl,rfl,rfl⟩) (by simp[h16]) (λe=>absurd rfl e) λ_ x=>rfl
  exact⟨q1,q2,λu hu=>(q3 u hu).1⟩
 have no:∀(t i:tyN) (c:GC) (K:List Ch),t≠w->(W t)[i]?=some (c,K)->(AN AH t i).1=16->¬c.fine/\K=[]:=λt i c K EW hm h16=>by
  obtain⟨ht,hc,o',l',d,hres⟩:=w3 t i c K hm;exact LU hA ht hc (hP t) (v:=(9,0)) (by unfold yo FH;rw[AK h16,DF EW];rfl) AQ d λp e v q=>(hres p e v q).1
 have cur:=dS h hwp (w1 w hwp) (LO:=lo+1) λi c K hm hne=>by
  by_cases h16:(AN AH w i).1=16
  .obtain⟨g1,_,_,g4⟩:=wr i c K hm h16;rw[AK (by unfold Y9;rw[Fh,GC.Hu,decide_eq_true_iff];exact⟨g1,h16⟩)];exact g4 hne
  .rw[AI (by unfold Y9;rw[Fh,decide_eq_true_iff];exact λq=>h16 q.2)];exact(own i c K hm h16).2.2.2 hne
 have hwk:∀u,u∈(W w).flatMap Prod.snd->(u.a.1=2/\0<=u.a.2.2/\u.a.2.2<=top)/\u.fb<=u.e H.length:=λu hu=>by
  obtain⟨i,c,K,hm,hK⟩:=of_flat hu;by_cases h16:(AN AH w i).1=16
  .obtain⟨_,_,q,_⟩:=wr i c K hm h16;have:=hv w i h16;rw[(q u hK).1];exact⟨⟨rfl,this⟩,(q u hK).2⟩
  .rw[(own i c K hm h16).2.1]at hK;cases hK
 have QG:∀t,t≠w->∀u,u∈(W t).flatMap Prod.snd->u.a.1=1:=λt EW u hu=>by
  obtain⟨i,c,K,hm,hK⟩:=of_flat hu;by_cases h16:(AN AH t i).1=16
  .rw[(no t i c K EW hm h16).2]at hK;cases hK
  .obtain⟨_,_,q⟩:=rd t i c K EW hm h16;rw[q u hK]
 obtain⟨f,hf⟩:=Ty hn2 hw htop hlo hU (λi q1 q2 q3=>⟨⟨q1,q2⟩,q3⟩) (λc _ _=>trivial) (λt ht=>by rw[w2 t J];rfl) (λu hu=>(hwk u hu).1) QG (by
  have h1:=h.len hwp;rw[<-w1 w hwp,Ca]at h1;refine DB (RM (W w) λz hz=>?_) (DB h1 (hlen w));obtain⟨i,hi,ei⟩:=Dj hz;have hm:(W w)[i]?=some (z.1,z.2):=by rw[gG hi,ei]
  by_cases h16:(AN AH w i).1=16
  .rcases(wr i z.1 z.2 hm h16).2.1 with⟨q,_⟩|⟨u,q,_⟩
   .exact .inl q
   .exact .inr ⟨u,q⟩
  .exact .inl (own i z.1 z.2 hm h16).2.1) (λt t' a a' b e e' x x'=>IW.uni h) λc q1 q2=>h.Oe hF (hs c q1 q2).1 (hs c q1 q2).2
 have hroot:∀t (a:AD),CA ((λ_=>(MF b (n-1) (CL w t) top).sub (MH b lo)) a):=λt _=>JQ (Fs b lo) ⟨_,_,rfl⟩
 have hfn:∀t,t≠w->∀u,u∈(W t).flatMap Prod.snd->RX b lo n w top t u.a=(λ_:AD=>(MF b (n-1) (CL w t) top).sub (MH b lo)) u.a:=λt EW u hu=>by
  unfold RX jO;rw[AK (QG t EW u hu)]
 refine VS h hwp w1 w2 hf (λt EW=>((hU.uses t).fn (hfn t EW)).rd (hroot t)) (λt t' p q x q' x' h1 h2 h3 h4=>h.uz hU (hroot t) (hroot t') (hfn t h1) (hfn t' h2) h3 h4) (λi c K hm=>?_) (λt i c K ht EW hm=>?_) λu hu=>(hwk u hu).2
 .by_cases h16:(AN AH w i).1=16
  .obtain⟨g1,g2,_⟩:=wr i c K hm h16;exact .inr (.inl ⟨g1,h16,.inl g2⟩)
  .obtain⟨g1,g2,g3,_⟩:=own i c K hm h16;rw[cur i c K hm]at g3;exact .inr (.inr ⟨g1,h16,g2,g3⟩)
 .by_cases h16:(AN AH t i).1=16
  .exact .inl (no t i c K EW hm h16)
  .exact .inr ⟨(rd t i c K EW hm h16).1,h16,(rd t i c K EW hm h16).2.1⟩
end
section
open Go.RowKit
variable {M:MD}{AH:List (List CD)}{H:List Au}{C:Nat->List GC}
theorem CC.regs(h:CC M AH H C){g:Nat->AD->Op Int}(hg:∀t a x,g t a≠ .ret x){T:Nat->CD->Op RD}(hP:∀t c,M.P t c=(T t c).sub (g t)):
  ∃W:Nat->List (GC×List Ch),(∀t,t<AH.length->(W t).map Prod.fst=C t)/\(∀t,AH.length<=t->W t=[])/\
   (∀(t i:tyN) (c:GC) (K:List Ch),(W t)[i]?=some (c,K)->t<AH.length/\(C t)[i]?=some c/\∃o' l',DE (g t) (T t (AN AH t i)) c.loc c.p0 c.items K o' l'/\∀p e v,c.res=some (p,e,v)->o'= .ret (e,v)/\c.out=Ag l')/\
   ∀(cs rg:Int->Prop) (on:AD->Bool),(∀i,rg i->0<=i/\i<32768)->(∀t c i,rg i->(T t c).keeps i)->(∀t a,on a=false->(∀i,rg i->(g t a).keeps i)/\(g t a).all λa'=> ¬cs a'.2.1)->G1 g (IW AH C) H.length cs rg λt=>((W t).flatMap Prod.snd).filter λu=>on u.a:=by
 have hW:∀t,∃W:List (GC×List Ch),(t<AH.length->W.map Prod.fst=C t)/\(AH.length<=t->W=[])/\(∀(i:tyN) (c:GC) (K:List Ch),W[i]?=some (c,K)->t<AH.length/\(C t)[i]?=some c/\∃o' l',DE (g t) (T t (AN AH t i)) c.loc c.p0 c.items K o' l'/\∀p e v,c.res=some (p,e,v)->o'= .ret (e,v)/\c.out=Ag l')/\
   ∀(rg:Int->Prop) (on:AD->Bool),(∀i,rg i->0<=i/\i<32768)->(∀c,(∀i,rg i->(T t c).keeps i)/\(T t c).all λa=>on a=false->∀i,rg i->(g t a).keeps i)->Bk (g t) rg H.length 0 (λ_=>0) ((W.flatMap Prod.snd).filter λu=>on u.a):=λt=>by
  rcases CR t AH.length with ht|ht
  .obtain⟨W,w1,w2,w3⟩:=h.uses ht (hg t) (hP t);exact⟨W,λ_=>w1,λq=>J,λi c K hm=>⟨ht,by rw[<-w1,BY,hm];rfl,w2 i c K hm⟩,w3⟩
  .exact⟨[],λq=>J,λ_=>rfl,λi c K hm=>by simp at hm,λrg on _ _=>trivial⟩
 refine⟨λt=>Classical.choose (hW t),λt=>(Cg (hW t)).1,λt=>(Cg (hW t)).2.1,λt=>(Cg (hW t)).2.2.1,λcs rg on hrg hk hq=>⟨λt=>(Cg (hW t)).2.2.2 rg on hrg λc=>⟨λi hi=>hk t c i hi,jH _ λa e=>(hq t a e).1⟩,λt u hu a b e x hm=>?_,λt a b e x hA hc'=>?_⟩⟩
 .obtain⟨⟨c,K⟩,hz,dm⟩:=FZ.1 (Db.1 hu).1;obtain⟨i,hi,ei⟩:=Dj hz;obtain⟨ht,hc,o',l',d,_⟩:=(Cg (hW t)).2.2.1 i c K (by rw[gG hi,ei]);exact⟨i,ht,c,hc,d.acc.2 ⟨u,dm,hm⟩⟩
 .obtain⟨i,ht,c,hc,hm⟩:=hA;have w1:=(Cg (hW t)).1 ht;rw[<-w1,BY]at hc;cases e:(Classical.choose (hW t))[i]? with
  |none=>rw[e]at hc;cases hc
  |some z=>
   rw[e]at hc;obtain⟨c',K⟩:=z;cases hc
   obtain⟨_,_,o',l',d,_⟩:=(Cg (hW t)).2.2.1 i c' K e;obtain⟨u,dm,hu⟩:=d.acc.1 hm;refine⟨u,Db.2 ⟨FZ.2 ⟨_,BI e,dm⟩,?_⟩,hu⟩;cases ho:on u.a with
   |true=>rfl
   |false=>
    exfalso;obtain⟨o1,hp1⟩:=d.path u dm;exact(hp1.all (hq t u.a ho).2).1 a b _ x hu hc'
 where jH {α:Type} {Q:AD->Prop}:∀(o:Op α),(∀a,Q a)->o.all Q
 | .ret _,_=>trivial
 | .ask a k,h=>⟨h a,λx=>jH (k x) h⟩
 | .get _ k,h=>λx=>jH (k x) h
 | .set _ _ k,h=>jH k h
 | .note _ k,h=>jH k h
 | .live k,h=>λb=>jH (k b) h
theorem TM{β:Type}(on:Ch->Bool):∀(W:List (β×List Ch)),Ib ((W.flatMap Prod.snd).filter on)=W.flatMap λz=>Ib (z.2.filter on)
 |[]=>rfl
 |z::W=>by
  rw[It,It,<-TM on W,IV];unfold Ib;rw[IV,Gu]
theorem NN{b i:tyI}{top:tyN}:∀n j,(IF b top n j).keeps i
 |0,_=>trivial
 |n+1,j=>λx=>by
  show Op.keeps i (if Pk j x=true then _ else _);split
  .exact trivial
  .exact NN n (j+1)
theorem Rt{b i:tyI}:∀l,(YM b l).keeps i
 |[]=>trivial
 |p::l=>λ_=>Rt l
theorem Wk(h:CC M AH H C)(hA:Sx M AH C)(hF:EE M){top:tyN}(hlo:0<=lo/\lo+top+1<=32768){w:tyN}(hw:w<AH.length)(hP:∀t c,M.P t c=(unO b top w t c).sub (RW b lo))(hs:∀k:Nat,k<=top->RP M (b+k) 1)(hv:∀t i,(AN AH t i).1=16->0<=(AN AH t i).2.2/\(AN AH t i).2.2<=top):Ze AH C w:=by
 have hroot:∀a x,RW b lo a≠ .ret x:=λa x e=>by
  unfold RW R3 at e;split at e<;>cases e
 obtain⟨W,w1,w2,w3,hU⟩:=h.regs (g:=λ_=>RW b lo) (T:=unO b top w) (λ_=>hroot) hP;obtain⟨vv,hvv⟩:∃vv:Nat->Nat,∀i,vv i=(AN AH w i).2.2.toNat:=⟨_,λ_=>rfl⟩
 have at':∀(t i:tyN) (c:GC),t<AH.length->(C t)[i]?=some c->∃K,(W t)[i]?=some (c,K):=λt i c ht hc=>by
  rw[<-w1 t ht,BY]at hc;cases e:(W t)[i]? with
  |none=>rw[e]at hc;cases hc
  |some z=>rw[e]at hc;cases hc;exact⟨z.2,rfl⟩
 have no:∀(t i:tyN) (c:GC) (K:List Ch),(W t)[i]?=some (c,K)->t≠w->(AN AH t i).1=16->¬c.fine/\K=[]:=λt i c K hm EW h16=>by
  obtain⟨ht,hc,o',l',d,hres⟩:=w3 t i c K hm;exact LU hA ht hc (hP t) (v:=(9,0)) (by unfold unO FH;rw[AK h16,DF EW];rfl) AQ d λp e v q=>(hres p e v q).1
 have wr:∀(i:tyN) (c:GC) (K:List Ch),(W w)[i]?=some (c,K)->(AN AH w i).1=16->c.fine/\K.length<=vv i+1/\(∀(m:tyN) (u:Ch),K[m]?=some u->m<=vv i/\u.a=(2,b+((vv i-m:tyN):tyI),I8 (vv i-m) (decide (m=0))))/\(c.res≠none->K.length=vv i+1):=λi c K hm h16=>by
  obtain⟨ht,hc,o',l',d,hres⟩:=w3 w i c K hm;unfold unO FH at d;rw[AK h16,Fi rfl,AK rfl]at d;dsimp only at d;rw[<-hvv]at d;obtain⟨g1,g2,g3⟩:=Xy d;rw[lA]at g1 g3;refine⟨λp e v q=>(g3 _ (hres p e v q).1).1,g1,λm u q=>?_,λq=>?_⟩
  .have G8:=(Be.1 q).1;obtain⟨p,p1,p2⟩:=g2 m u q;rw[pL J]at p1;cases p1
   exact⟨J,p2⟩
  .cases er:c.res with
   |none=>exact absurd er q
   |some x=>exact(g3 _ (hres x.1 x.2.1 x.2.2 er).1).2
 have rd:∀(t i:tyN) (c:GC) (K:List Ch),(W t)[i]?=some (c,K)->(AN AH t i).1≠16->(∀(m:tyN) (u:Ch),K[m]?=some u->u.a=(1,b+(m:tyI),0))/\∀p e v,c.res=some (p,e,v)->∃i0:Nat,v=(i0:tyI)/\i0<=top/\K.length=i0+1/\∀(m:tyN) (u:Ch),K[m]?=some u->∃x,u.res=some x/\(m<i0->Pk m x=false)/\(m=i0->i0<top->Pk i0 x=true):=λt i c K hm h16=>by
  obtain⟨ht,hc,o',l',d,hres⟩:=w3 t i c K hm;unfold unO FH at d;rw[AI h16,AK rfl]at d;obtain⟨g1,g2⟩:=R7 d rfl;refine⟨λm u q=>by have:=g1 m u q;rwa[Dw]at this,λp e v q=>?_⟩;obtain⟨_,i0,e2,e3,e4,e5,e6⟩:=g2 _ (hres p e v q).1;refine⟨i0,e2,e4,e5,λm u q=>?_⟩;obtain⟨x,x1,x2,x3⟩:=e6 m u q;rw[Dw]at x2 x3;exact⟨x,x1,x2,x3⟩
 have rd1:∀(t i:tyN) (c:GC) (K:List Ch),(W t)[i]?=some (c,K)->(AN AH t i).1≠16->∀u,u∈K->u.a.1=1:=λt i c K hm h16 u hu=>by
  obtain⟨m,G8,e⟩:=Dj hu;rw[(rd t i c K hm h16).1 m u (by rw[gG G8,e])]
 obtain⟨on,hon⟩:∃on:Nat->Ch->Bool,∀k u,on k u=decide (u.a.2.1=b+(k:tyI)):=⟨_,λ_ _=>rfl⟩;obtain⟨F,zd⟩:∃F:Nat->GC×List Ch->List (WR×Bool),∀k z,F k z=Ib (z.2.filter (on k)):=⟨_,λ_ _=>rfl⟩
 have hst:∀k,k<=top->∀(t:tyN) (u:Ch) (x:tyI),u∈(W t).flatMap Prod.snd->on k u=true->u.a.1=1->u.res=some x->u.e H.length<H.length->u.fb<u.e H.length/\∃m,ur (((W w).flatMap (F k)).map (·.1)) u.fb (u.e H.length) x m:=λk hk=>by
  have hp:=hU (λc=>c=b+(k:tyI)) (λi=>i=lo+(k:tyI)) (λa=>decide (a.2.1=b+(k:tyI))) (λi hi=>J) (λt c i _=>by
   refine GA ?_ ?_ c
   .exact NN _ _
   .exact λv=>Rt _) (λt a ha=>by
   have ha':a.2.1≠b+(k:tyI):=by simpa using ha
   refine⟨λi hi=>?_,?_⟩
   .subst hi;unfold RW R3;split
    .exact λ_=>trivial
    .intro x;show Op.keeps _ (if x=a.2.2 then _ else _);split
     .exact trivial
     .exact λ_=>⟨J,trivial⟩
   .unfold RW R3;split
    .exact⟨ha',λ_=>trivial⟩
    .intro x;show Op.all _ (if x=a.2.2 then _ else _);split
     .exact trivial
     .exact⟨ha',λ_=>trivial⟩)
  have hp2:Wu (R3 (b+(k:tyI)) (lo+(k:tyI))) (IW AH C) H.length (λc=>c=b+(k:tyI)) (λi=>i=lo+(k:tyI)) λt=>((W t).flatMap Prod.snd).filter (on k):=by
   have e:(λt=>((W t).flatMap Prod.snd).filter λu=>decide (u.a.2.1=b+(k:tyI)))=λt=>((W t).flatMap Prod.snd).filter (on k):=by
    funext t;congr 1;funext u;exact(hon k u).symm
   rw[e]at hp;refine hp.fn λt u hu=>?_
   have h2:=(Db.1 hu).2;rw[hon,decide_eq_true_iff]at h2;show RW b lo u.a=_;unfold RW;rw[h2,show lo+(b+(k:tyI)-b)=lo+(k:tyI) by omega]
  have hq:=RF J hp2 rfl rfl (w:=w) (λt u hu h1=>by
   obtain⟨i,c,K,hm,hK⟩:=of_flat (Db.1 hu).1;by_cases h16:(AN AH t i).1=16
   .by_cases EW:t=w
    .subst EW;refine⟨rfl,?_⟩;obtain⟨m,G8,e⟩:=Dj hK;rw[((wr i c K hm h16).2.2.1 m u (by rw[gG G8,e])).2];show I8 _ _=0\/I8 _ _=1;unfold I8;split<;>simp
    .rw[(no t i c K hm EW h16).2]at hK;cases hK
   .exact absurd (rd1 t i c K hm h16 u hK) h1) (λt u hu=>by
   obtain⟨i,c,K,hm,hK⟩:=of_flat (Db.1 hu).1;obtain⟨_,_,_,_,d,_⟩:=w3 t i c K hm
   exact d.begun u hK) (h.Oe hF (hs k hk).1 (hs k hk).2)
  intro t u x hu ho h1 hx he;have:=hq t u x (Db.2 ⟨hu,ho⟩) h1 hx he;rw[TM]at this;have e:(λz:GC×List Ch=>Ib (z.2.filter (on k)))=F k:=by funext z;exact(zd k z).symm
  rw[e]at this;exact this
 have row:∀k i c K,(W w)[i]?=some (c,K)->(F k (c,K)=[]/\((AN AH w i).1=16->¬(k<=vv i/\vv i-k<K.length)))\/((AN AH w i).1=16/\k<=vv i/\∃u,K[vv i-k]?=some u/\F k (c,K)=[(KY u,!u.its.isEmpty)]):=λk i c K hm=>by
  rw[zd];by_cases h16:(AN AH w i).1=16
  .obtain⟨_,q1,q2,_⟩:=wr i c K hm h16;by_cases hk:k<=vv i/\vv i-k<K.length
   .have hf:K.filter (on k)=(K[vv i-k]?).toList:=filter_one λj u hu=>by
     obtain⟨j1,j2⟩:=q2 j u hu;rw[hon,decide_eq_true_iff,j2];dsimp only;omega
    obtain⟨u,hu⟩:∃u,K[vv i-k]?=some u:=⟨_,gG hk.2⟩;refine .inr ⟨h16,hk.1,u,hu,?_⟩;show Ib (K.filter (on k))=_;rw[hf,hu,pI];unfold Ib;rw[I2 (by unfold qg;rw[(q2 _ u hu).2];rfl)];rfl
   .refine .inl ⟨?_,λ_=>hk⟩;show Ib (K.filter (on k))=_;rw[Kt.2 λu hu=>?_]
    .rfl
    .obtain⟨m,G8,e⟩:=Dj hu;obtain⟨j1,j2⟩:=q2 m u (by rw[gG G8,e]);rw[hon,decide_eq_true_iff,j2];dsimp only;omega
  .refine .inl ⟨?_,λq=>absurd q h16⟩;show Ib (K.filter (on k))=_;unfold Ib;rw[Kt.2 λu hu=>?_]
   .rfl
   .unfold qg;rw[rd1 w i c K hm h16 u (Db.1 hu).1];simp
 have few:∀k z,z∈W w->F k z=[]\/∃r,F k z=[r]:=λk z hz=>by
  obtain⟨j,hj,ej⟩:=Dj hz;rcases row k j z.1 z.2 (by rw[gG hj,ej])with⟨g,_⟩|⟨_,_,u,_,g⟩
  .exact .inl g
  .exact .inr ⟨_,g⟩
 obtain⟨KO,zg⟩:∃KO:Nat->List Ch,∀i c K,(W w)[i]?=some (c,K)->KO i=K:=⟨λi=>match(W w)[i]? with|some z=>z.2|none=>[],λi c K hm=>by dsimp only;rw[hm]⟩;obtain⟨co,hco⟩:∃co:Nat->GC,∀i c K,(W w)[i]?=some (c,K)->co i=c:=⟨λi=>match(W w)[i]? with|some z=>z.1|none=>⟨0,[],[],[],none⟩,λi c K hm=>by dsimp only;rw[hm]⟩;obtain⟨qo,hqo⟩:∃qo:Nat->Nat,∀i r,(co i).res=some r->qo i=r.1:=⟨λi=>match(co i).res with|some r=>r.1|none=>0,λi r hr=>by dsimp only;rw[hr]⟩;obtain⟨po,hpo⟩:∃po:Nat->Nat->Nat×Nat,∀i k u,(KO i)[vv i-k]?=some u->po i k=(u.fb,AM u.lo u.its):=⟨λi k=>match(KO i)[vv i-k]? with|some u=>(u.fb,AM u.lo u.its)|none=>(0,0),λi k u hu=>by dsimp only;rw[hu]⟩;obtain⟨Qg,jI⟩:∃Qg:Nat->Prop,∀i,Qg i↔(∃c K,(W w)[i]?=some (c,K))/\(AN AH w i).1=16:=⟨_,λ_=>Iff.rfl⟩;obtain⟨has,hhas⟩:∃has:Nat->Nat->Prop,∀i k,has i k↔Qg i/\k<=vv i/\vv i-k<(KO i).length:=⟨_,λ_ _=>Iff.rfl⟩
 have eG:∀(t i:tyN) (c:GC) (K:List Ch),(W t)[i]?=some (c,K)->(∀u,u∈K->c.p0<=u.fb/\u.fb<=AM u.lo u.its/\AM u.lo u.its<=AM c.p0 c.items)/\K.Pairwise λu v=>AM u.lo u.its<=v.fb:=λt i c K hm=>by
  obtain⟨ht,hc,o',l',d,_⟩:=w3 t i c K hm;exact d.line (h.call t ht i c hc).seq
 have oL:∀{K:List Ch},(K.Pairwise λu v=>AM u.lo u.its<=v.fb)->∀{m n:tyN} {u v:Ch},m<n->K[m]?=some u->K[n]?=some v->AM u.lo u.its<=v.fb:=λ{K} hp {m n u v} hmn hu hv=>by
  have h1:=Be.1 hu;have h2:=Be.1 hv;have:=jh.1 hp m n h1.1 h2.1 hmn;rw[h1.2,h2.2]at this;exact this
 have oM:∀i k,has i k->∃c K u,(W w)[i]?=some (c,K)/\(AN AH w i).1=16/\k<=vv i/\K[vv i-k]?=some u/\po i k=(u.fb,AM u.lo u.its)/\co i=c:=λi k hk=>by
  obtain⟨h1,h2,h3⟩:=(hhas i k).1 hk;obtain⟨⟨c,K,hm⟩,h16⟩:=(jI i).1 h1;rw[zg i c K hm]at h3;have hu:K[vv i-k]?=some K[vv i-k]:=gG h3;exact⟨c,K,_,hm,h16,h2,hu,hpo i k _ (by rw[zg i c K hm];exact hu),hco i c K hm⟩
 refine⟨λt i c ht hc hf h16=>?_,λt i c p e v ht hc hf h16 hr=>?_⟩
 .refine TR λEW=>?_
  obtain⟨K,hm⟩:=at' t i c ht hc;exact(no t i c K hm EW h16).1 hf
 obtain⟨K,hm⟩:=at' t i c ht hc;obtain⟨ka,kr⟩:=rd t i c K hm h16;obtain⟨i0,rfl,hi0,hlen,hK⟩:=kr p e v hr;obtain⟨ln1,ln2⟩:=eG t i c K hm;have hres:=(h.call t ht i c hc).res p e _ hr;have hpN:=(h.GI ht hc hr).2;obtain⟨uk,huk⟩:∃uk:Nat->Ch,∀k,k<=i0->K[k]?=some (uk k):=⟨λk=>(K[k]?).getD (K[0]'(J)),λk hk=>by dsimp only;rw[gG (show k<K.length by omega)];rfl⟩
 have hx:∀k,∃x,k<=i0->(uk k).res=some x/\(k<i0->Pk k x=false)/\(k=i0->i0<top->Pk i0 x=true):=λk=>by
  by_cases hk:k<=i0
  .obtain⟨x,hx⟩:=hK k _ (huk k hk);exact⟨x,λ_=>hx⟩
  .exact⟨0,λq=>absurd q hk⟩
 obtain⟨xk,hxk⟩:∃xk:Nat->Int,∀k,k<=i0->(uk k).res=some (xk k)/\(k<i0->Pk k (xk k)=false)/\(k=i0->i0<top->Pk i0 (xk k)=true):=⟨λk=>Classical.choose (hx k),λk=>Cg (hx k)⟩;have hmem:∀k,k<=i0->uk k∈K:=λk hk=>BI (huk k hk)
 have hend:∀k,k<=i0->(uk k).e H.length=AM (uk k).lo (uk k).its:=λk hk=>by unfold Ch.e;rw[(hxk k hk).1]
 have look:∀k,k<=i0->(uk k).fb<AM (uk k).lo (uk k).its/\∃m,ur (((W w).flatMap (F k)).map (·.1)) (uk k).fb (AM (uk k).lo (uk k).its) (xk k) m:=λk hk=>by
  have h1:=ka k _ (huk k hk);have h2:=(ln1 _ (hmem k hk)).2.2;have:=hst k J t (uk k) (xk k) (FZ.2 ⟨_,BI hm,hmem k hk⟩) (by rw[hon,h1];simp) (by rw[h1]) (hxk k hk).1 (by rw[hend k hk];omega);rwa[hend k hk]at this
 have ug:∀k,∃s:Option Nat,k<=i0->(s=none->(Pk k (xk k)=true↔k=0)/\∀j,has j k->¬(po j k).2<(uk k).fb)/\∀j,s=some j->has j k/\(po j k).1<AM (uk k).lo (uk k).its/\(Pk k (xk k)=true↔k=vv j)/\∀j',has j' k->(po j' k).2<(uk k).fb->j'<=j:=λk=>by
  by_cases hk:k<=i0
  .obtain⟨_,m,m1,m2,m3,m4⟩:=look k hk
   have rowOf:∀j,has j k->∃u c K,(W w)[j]?=some (c,K)/\F k (c,K)=[(KY u,!u.its.isEmpty)]/\po j k=(u.fb,AM u.lo u.its):=λj hj=>by
    obtain⟨c',K',u,q1,q2,q3,q4,q5,_⟩:=oM j k hj;rcases row k j c' K' q1 with⟨_,g⟩|⟨_,_,u',g1,g2⟩
    .exact absurd ⟨q3,(Be.1 q4).1⟩ (g q2)
    .rw[q4]at g1;cases g1;exact⟨u,c',K',q1,g2,q5⟩
   cases m with
   |zero=>
    refine⟨none,λ_=>⟨λ_=>⟨by rw[m2];show Pk k 0=true↔_;rw[kX];simp,λj hj hlt=>?_⟩,λj q=>by cases q⟩⟩;obtain⟨u,c',K',q1,q2,q3⟩:=rowOf j hj;have:=m4 _ _ (GP (Lo (f:=F k) q1 q2)) (by rw[q3]at hlt;exact hlt);omega
   |succ m=>
    rw[Ca]at m1;obtain⟨r,hr'⟩:∃r,((W w).flatMap (F k))[m]?=some r:=⟨_,gG J⟩;obtain⟨j,⟨c',K'⟩,g1,g2,g3⟩:=Lk (f:=F k) (few k) hr';rcases row k j c' K' g1 with⟨g,_⟩|⟨f1,f2,u,f3,f4⟩
    .rw[g2]at g;cases g
    .rw[g2]at f4;cases f4;have hl:=(Be.1 f3).1;have hj:has j k:=(hhas j k).2 ⟨(jI j).2 ⟨⟨c',K',g1⟩,f1⟩,f2,by rw[zg j c' K' g1];exact hl⟩;have wH:po j k=(u.fb,AM u.lo u.its):=hpo j k u (by rw[zg j c' K' g1];exact f3);have hah:=m3 m _ (GP hr') (I7 m)
     have hxv:xk k=I8 k (decide (k=vv j)):=by
      rw[m2,Bz (GP hr')];show u.a.2.2=_;rw[((wr j c' K' g1 f1).2.2.1 _ u f3).2];show I8 (vv j-(vv j-k)) (decide (vv j-k=0))=_;rw[show vv j-(vv j-k)=k by omega];congr 1;exact decide_eq_decide.2 J
     refine⟨some j,λ_=>⟨λq=>(by cases q),λj2 q=>?_⟩⟩;cases q
     refine⟨hj,by rw[wH];exact hah,by rw[hxv,qQ];simp,λj' hj' hlt=>?_⟩;obtain⟨u',c2,K2,q1,q2,q3⟩:=rowOf j' hj';have h1:=m4 _ _ (GP (Lo (f:=F k) q1 q2)) (by rw[q3]at hlt;exact hlt);refine Nat.le_of_not_lt λhgt=>?_
     have h2:=KF (f:=F k) g1 g2 hgt;omega
  .exact⟨none,λq=>absurd q hk⟩
 obtain⟨seen,uh⟩:∃seen:Nat->Option Nat,∀k,k<=i0->(seen k=none->(Pk k (xk k)=true↔k=0)/\∀j,has j k->¬(po j k).2<(uk k).fb)/\∀j,seen k=some j->has j k/\(po j k).1<AM (uk k).lo (uk k).its/\(Pk k (xk k)=true↔k=vv j)/\∀j',has j' k->(po j' k).2<(uk k).fb->j'<=j:=⟨λk=>Classical.choose (ug k),λk=>Cg (ug k)⟩
 have R:UnR top (W w).length vv (λj=>(co j).p0) qo Qg (λj=>(co j).res≠none) has (λj k=>(po j k).1) (λj k=>(po j k).2) i0 c.p0 p (λk=>(uk k).fb) (λk=>AM (uk k).lo (uk k).its) (λk=>Pk k (xk k)=true) seen:=by
  refine⟨λj hj=>?_,λj k hj=>?_,λj hj hcj=>?_,λj k k' hj hkk hk'=>?_,λk k' hkk hk'=>?_,λk hk=>?_,λk hk=>by rw[(hxk k (BP hk)).2.1 hk];simp,λq=>(hxk i0 (A9 _)).2.2 rfl q,λk hk=>(uh k hk).1,λk j hk=>(uh k hk).2 j⟩
  .obtain⟨⟨c',K',q1⟩,q2⟩:=(jI j).1 hj;have:=hv w j q2;rw[hvv];exact⟨(Be.1 q1).1,J⟩
  .obtain⟨c',K',u,q1,q2,q3,q4,q5,q6⟩:=oM j k hj;rw[q5,q6];exact⟨((hhas j k).1 hj).1,q3,((eG w j c' K' q1).1 u (BI q4)).1⟩
  .obtain⟨⟨c',K',q1⟩,q2⟩:=(jI j).1 hj;have ec:=hco j c' K' q1;cases er:c'.res with
   |none=>rw[ec]at hcj;exact absurd er hcj
   |some r=>
    obtain⟨p',e',v'⟩:=r;have eq:=hqo j (p',e',v') (by rw[ec];exact er);obtain⟨_,hd,_⟩:=w3 w j c' K' q1;have hlt:=h.GI hw hd er;have hl:=(h.call w hw j c' hd).res p' e' v' er;refine⟨by rw[ec,eq];exact hlt.1,λk hk=>?_⟩;have hKl:=(wr j c' K' q1 q2).2.2.2 (by rw[er];simp);have hjk:has j k:=(hhas j k).2 ⟨hj,hk,by rw[zg j c' K' q1];omega⟩;obtain⟨c2,K2,u,s1,s2,s3,s4,s5,s6⟩:=oM j k hjk;rw[q1]at s1;cases s1;refine⟨hjk,?_⟩;have:=((eG w j c' K' q1).1 u (BI s4)).2.2;rw[s5,eq];dsimp only;omega
  .obtain⟨c',K',u,q1,q2,q3,q4,q5,q6⟩:=oM j k hj;have hl:=(Be.1 q4).1;have hjk:has j k':=(hhas j k').2 ⟨((hhas j k).1 hj).1,hk',by rw[zg j c' K' q1];omega⟩;obtain⟨c2,K2,u2,s1,s2,s3,s4,s5,s6⟩:=oM j k' hjk;rw[q1]at s1;cases s1;refine⟨hjk,?_⟩;rw[q5,s5];exact oL (eG w j c' K' q1).2 J s4 q4
  .exact oL ln2 hkk (huk k J) (huk k' hk')
  .have:=ln1 _ (hmem k hk);exact⟨this.1,(look k hk).1,by have:=hres.1;omega⟩
 have hle:∀j (d:GC) (p':tyN) (e' v':tyI),(C w)[j]?=some d->(AN AH w j).1=16->d.res=some (p',e',v')->Qg j/\(co j).res≠none/\qo j=p':=λj d p' e' v' hd bR hdr=>by
  obtain⟨K',hm'⟩:=at' w j d hw hd;have ec:=hco j d K' hm';exact⟨(jI j).2 ⟨⟨d,K',hm'⟩,bR⟩,by rw[ec,hdr];simp,hqo j (p',e',v') (by rw[ec];exact hdr)⟩
 rcases R.found with⟨q1,q2⟩|⟨j,q1,q2,q3,q4⟩
 .refine .inl ⟨by rw[q1];rfl,λj d p' e' v' hd _ bR hdr hlt=>?_⟩;obtain⟨s1,s2,s3⟩:=hle j d p' e' v' hd bR hdr;exact q2 j s1 ⟨s2,by rw[s3];exact hlt⟩
 .obtain⟨⟨d,K',hm'⟩,bR⟩:=(jI j).1 q1;obtain⟨_,hd,_⟩:=w3 w j d K' hm';have ec:=hco j d K' hm';refine .inr ⟨j,d,hd,(wr j d K' hm' bR).1,bR,?_,by rw[<-ec];exact q3,λj' d' p' e' v' hjj hd' _ AC5 hdr hlt=>?_⟩
  .have:=hv w j bR;rw[<-q2,hvv];omega
  .obtain⟨s1,s2,s3⟩:=hle j' d' p' e' v' hd' AC5 hdr;exact q4 j' hjj s1 ⟨s2,by rw[s3];exact hlt⟩
end
end Go.Proofs.YtpodgcpkccpnfaaGreat
