import Derived.ArgAppend
import Derived.Maps.OwnSet
import Derived.Maps.OwnOps
import Derived.Deep.RegionHeld3
import Derived.Recover
import Derived.Defers
import Derived.Lib.Builder
import Derived.Test.YtpodgcpkccpnfaaGreatPk04
set_option linter.unusedVariables false
set_option linter.unusedSimpArgs false
set_option maxRecDepth 20000
set_option maxHeartbeats 40000000
namespace Go.Proofs.YtpodgcpkccpnfaaGreat
variable{q:Int}{F:Int->Option Value}{l:List Int}{xs:List Value}{B b c e m n size sz:Nat}{A:Option Addr}{W w w':World}
section
open Go.RowKit
theorem Fe(n top:tyI):(n<0\/top<0)/\AZ n top=0\/0<=n/\0<=top/\n<=top/\n<=1099511627776/\AZ n top=n\/0<=n/\0<=top/\top<n/\top<=1099511627776/\AZ n top=top\/0<=n/\0<=top/\1099511627776<n/\1099511627776<top/\AZ n top=1099511627776:=by
 by_cases h1:n<0
 .exact .inl ⟨.inl h1,by unfold AZ BC;rw[AK h1]⟩
 by_cases h2:top<0
 .refine .inl ⟨.inr h2,?_⟩;unfold AZ BC;rw[AI h1,AK h2];split<;>omega
 have e:BC top 0 1099511627776=if 1099511627776<top then 1099511627776 else top:=by unfold BC;rw[AI h2]
 unfold AZ;rw[e];unfold BC;rw[AI h1];by_cases h3:1099511627776<top
 .rw[AK h3];by_cases h5:1099511627776<n
  .rw[AK h5];exact .inr (.inr (.inr ⟨J,J,h5,h3,rfl⟩))
  .rw[AI h5];exact .inr (.inl ⟨J,J,J,J,rfl⟩)
 .rw[AI h3];by_cases h5:top<n
  .rw[AK h5];exact .inr (.inr (.inl ⟨J,J,h5,J,rfl⟩))
  .rw[AI h5];exact .inr (.inl ⟨J,J,J,J,rfl⟩)
theorem eb(n top:tyI):0<=AZ n top/\AZ n top<=1099511627776:=by
 rcases Fe n top with⟨_,h⟩|⟨_,_,_,_,h⟩|⟨_,_,_,_,h⟩|⟨_,_,_,_,h⟩<;>rw[h]<;>omega
theorem Cu(n top:tyI)(w:tyW):Calls Tryz.prog 129 #[n,top] w λe w'=>e=BA (O (AZ n top))/\w'=w:=by
 have hc:=Fe n top;generalize AZ n top=r at*;go_enter Tryz.func129,Tryz.ntmps129;go_wp2_with fail
 all_goals
  go_ret;refine⟨?_,rfl⟩;show Ending.returned (Value.int .i64 _)=Ending.returned (Value.int .i64 r);refine DJ (λz=>Ending.returned (Value.int .i64 z)) ?_;omega
theorem eu(n top:tyI)(w:tyW):Calls Tryz.prog 109 #[n,top] w λe w'=>e=BA (O (Di n top))/\w'=w:=by
 have HC:=I (Cu top 1099511627776 w);have e0:AZ top 1099511627776=BC top 0 1099511627776:=rfl;rw[e0]at HC;have hm:=Ov top;have HW:=I (show Di n top=n%(BC top 0 1099511627776+1)from rfl);generalize hr:Di n top=r at HW|-;generalize BC top 0 1099511627776=m at*;obtain⟨h1,h2,h3⟩:=Ti n (m+1) J;rw[<-HW]at h3;have x1:wrap64 (m+1)=m+1:=IntWalk.wrap64_in _ J;have x2:((m+1)==0)=false:=by rw[Dy];omega
 have x3:wrap64 (n.tmod (m+1))=n.tmod (m+1):=IntWalk.wrap64_in _ J;have x4:wrap64 (n.tmod (m+1)+(m+1))=n.tmod (m+1)+(m+1):=IntWalk.wrap64_in _ J;have x5:¬(m+1=0):=J;have HM:=I hm;have H3:=I h3;have H12:=I (And.intro h1 h2);clear hr e0 h3 hm h1 h2;go_enter Tryz.func109,Tryz.ntmps109;go_wp2_with fail;refine HC.mono ?_;rintro e w1 ⟨rfl,rfl⟩;have X4:=I x4;by_cases hr:n.tmod (m+1)<0
 .have HE2:=I (H3.trans (AK hr))
  go_wp2
  go_ret;refine⟨?_,rfl⟩;rw[HE2];exact DJ (λz=>Ending.returned (Value.int .i64 z)) X4.out
 .have HE2:=I (H3.trans (AI hr))
  go_wp2
  go_ret;refine⟨?_,rfl⟩;rw[HE2];rfl
theorem mE:Tryz.prog.info? 3=some Tryz.t3:=Ay
def D0 (w:tyW)(B:tyN)(m:tyV)(l:tyL):Prop:=w.ownsRow B 3 1 m l.length (Aj l)\/∃g,m=BG g 0 l.length l.length/\B<=g/\g<w.heap.size/\∀j u,(Aj l)[j]?=some u->V w g j u
structure KB (w w':tyW)(b o:tyN)(m m':tyV):Prop where
 os:w'.os=w.os
 tape:w'.tape=w.tape
 output:w'.output=w.output
 size:w.heap.size<=w'.heap.size
 block:∀k,k<w.heap.size->k≠b->m.ownBlock≠some k->hSM w' w k
 c3:V w' b (o+3) true
 c4:V w' b (o+4) m'
 Iu:∀j,j≠o+3->j≠o+4->w'.cell? (aD b j)=w.cell? (aD b j)
 fz:∀j,w'.frozen? (aD b j)=w.frozen? (aD b j)
 ob:m'.ownBlock=m.ownBlock\/(∀k,m'.ownBlock=some k->w.heap.size<=k)
theorem AS{v:tyV}(h:w.ownsRow B e size v n xs)(hk:∀k,v.ownBlock=some k->hSM w' w k):w'.ownsRow B e size v n xs:=by
 rcases h.2 with⟨hv,hn⟩|⟨g,cap,cur,hv,hg,hh,hr⟩
 .exact⟨h.1,.inl ⟨hv,hn⟩⟩
 .exact⟨h.1,.inr ⟨g,cap,cur,hv,hg,(hk g (by rw[hv];rfl)).trans hh,hr⟩⟩
theorem PY:∃i,Tryz.prog.info? 3=some i/\i.zero=SY ()/\i.size=1/\i.bytes=8:=⟨_,mE,Ay,Ay,Ay⟩
theorem CI{o:tyN}(h:hSM w' w b):w'.cell? (aD b o)=w.cell? (aD b o):=by simp only[World.cell?,h]
theorem C4{o:tyN}(h:hSM w' w b):w'.frozen? (aD b o)=w.frozen? (aD b o):=by simp only[World.frozen?,h]
theorem Wn(h b o B n:tyN)(kind v:tyI)(m:tyV)(wL:Bool)(l:tyL)(w:tyW)(ck:V w h 0 kind)(r3:V w b (o+3) wL)(r4:V w b (o+4) m)
  (fz:∀j,w.frozen? (aD b j)=false) (hown:w.ownsRow B 3 1 m l.length (Aj l)) (hB:B<=w.heap.size) (hl:l.length<=100000) (hmb:m.ownBlock≠some b):
  Calls Tryz.prog 174 #[pT h,.pointer (some (aD b o)),v] w λe w'=>e=BA (.tuple #[])/\
   ∃m',KB w w' b o m m'/\w'.ownsRow B 3 1 m' (if kind=2 then l++[v]else l).length (Aj (if kind=2 then l++[v]else l))/\(kind≠2->m'=m):=by
 have hbs:=AJ r3;have f3:=fz (o+3);have f4:=fz (o+4);obtain⟨w1,hw1⟩:=gX (w.setCell (aD b (o+3)) true);have hk1:∀k,k≠b->hSM w1 w k:=λk hne=>by rw[<-hw1];exact BF w ⟨b,o+3,none⟩ _ k hne
 have hs1:w1.heap.size=w.heap.size:=by rw[<-hw1];simp
 have hc3:V w1 b (o+3) true:=by rw[<-hw1];exact Ek _ _ _ r3
 have ho1:∀j,j≠o+3->w1.cell? (aD b j)=w.cell? (aD b j):=λj hj=>by rw[<-hw1];exact Ck _ _ _ _ (by simp<;>omega)
 have hf1:∀j,w1.frozen? (aD b j)=w.frozen? (aD b j):=λj=>by rw[<-hw1];simp[go_sem]
 have hos:w1.os=w.os/\w1.tape=w.tape/\w1.output=w.output:=by rw[<-hw1];exact⟨rfl,rfl,rfl⟩
 have hown1:=AS hown (w':=w1) (λk hk=>hk1 k (λe=>hmb (by rw[<-e];exact hk)));by_cases hk:kind=2
 .rw[AK hk];subst hk;obtain⟨i0,hi,hz0,hz1,hz2⟩:=PY
  obtain⟨A1,c1,rfl,-,-⟩:∃A c,m=AR A l.length c/\True/\True:=by
   rcases hown.2 with⟨hv,hn⟩|⟨g,cap,cur,hv,_⟩
   .exact⟨none,0,by rw[hv,hn],trivial,trivial⟩
   .exact⟨_,cap,hv,trivial,trivial⟩
  have HOW:=I (hown1.alloc (Y #[v] 3));have hcn:=CQ w1 [v] 3;rw[hs1]at hcn;have HCN:=I hcn;have H63:=I (show l.length+1<=maxLen/\(l.length+1)*8<=140737488355328 by unfold maxLen;omega);have H1C:=I (show∀u∈[Value.int .i64 v],u.oneCell'=true by intro u hu;simp at hu;subst hu;rfl);clear hcn;have EK:=I (show B<=(w1.alloc (Y #[v] 3)).heap.size by simp;omega);have HI:=I hi;have HZ0:=I hz0;have HZ1:=I hz1;have HZ2:=I hz2;have Pw:=I hs1;have ie:=I hk1;have Vl:=I hc3;have dW:=I ho1;have bC:=I hf1;have rM:=I hos;have oo:=I hmb;have HFZ:=I fz;have HR4:=I r4;have uC:(w1.alloc (Y #[v] 3)).heap.size=w1.heap.size+1:=Az;have S4:=I uC;have HL:=I hl;have jP:=I hbs;clear hown hown1 hi hz0 hz1 hz2 hs1 hk1 hc3 ho1 hf1 hos hmb fz hB uC hl;subst hw1;go_enter Tryz.func174,Tryz.ntmps174;go_wp2_with(at_builtin;refine wpList_append_lies _ rfl (.tmp 18) (.tmp 20) 25 rfl B 3 i0 () 1 8 Tryz.underlying25 HI HZ0 HZ1 HZ2 rfl AQ _ l.length (Aj l) rfl HOW ⟨w.heap.size,0,none⟩ 1 1 [v] rfl rfl HCN H1C AQ H63.1 H63.2 EK _ rfl ?_)
  intro g1 cap w1 hown1 hg hor hlt1;obtain⟨WE,hWE⟩:=gX (w.setCell (aD b (o+3)) true);rw[hWE]at Pw ie Vl dW bC rM hg S4;have hbl:∀k,k<WE.heap.size->(some k≠(Value.slice A1 l.length c1).ownBlock)->hSM w1 WE k:=λk hk hne=>(hg.block k (by rw[S4];omega) hne).trans (JP WE _ k hk)
  have hbb:hSM w1 WE b:=hbl b (by have:=Pw.out;have:=jP.out;omega) (λe=>oo e.symm);have r4':V w1 b (o+4) (AR A1 l.length c1):=(CI hbb).trans ((dW _ J).trans HR4);have f4':w1.frozen? (aD b (o+4))=false:=(C4 hbb).trans ((bC _).trans (HFZ _))
  have hgb:g1≠b:=λe=>by
   rcases hor with h1|h1
   .exact oo (by rw[h1,e])
   .have:=jP.out;omega
  have HP:=I (show∃m',KB w (w1.setCell (aD b (o+4)) (BG g1 0 (l.length+1) cap)) b o (AR A1 l.length c1) m'/\(w1.setCell (aD b (o+4)) (BG g1 0 (l.length+1) cap)).ownsRow B 3 1 m' (l++[v]).length (Aj (l++[v]))from by
   refine⟨BG g1 0 (l.length+1) cap,⟨?_,?_,?_,?_,λk hk hne hno=>?_,?_,Ek _ _ _ r4',λj h1 h2=>?_,λj=>?_,?_⟩,?_⟩
   .exact hg.os.trans rM.1
   .exact hg.tape.trans rM.2.1
   .exact hg.output.trans rM.2.2
   .have h1:=hg.size;have h2:=S4.out;have h3:=Pw.out;simp only[World.size_setCell];omega
   .refine(BF w1 ⟨b,o+4,none⟩ _ k hne).trans ((hbl k (by have:=Pw.out;omega) (λe=>hno e.symm)).trans (ie k hne))
   .refine(Ck _ _ _ _ Az).trans ((CI hbb).trans Vl)
   .refine(Ck _ _ _ _ (by simp<;>omega)).trans ((CI hbb).trans (dW j h1))
   .have:(w1.setCell (aD b (o+4)) (BG g1 0 (l.length+1) cap)).frozen? (aD b j)=w1.frozen? (aD b j):=by simp[go_sem]
    rw[this];exact(C4 hbb).trans (bC j)
   .rcases hor with h1|h1
    .exact .inl (by rw[h1];rfl)
    .refine .inr λk hk=>?_
     simp only[Value.ownBlock,Dt]at hk;omega
   .have e:Aj (l++[v])=Aj l++[.int .i64 v]:=by unfold Aj;simp
    rw[e,Gx];refine AS hown1 λk hk=>BF w1 ⟨b,o+4,none⟩ _ k ?_
    simp only[Value.ownBlock,Dt]at hk;show k≠b
    omega)
  clear hown1 hg hor hlt1 hbl hbb hgb;go_wp2_with fail
  go_end0
  obtain⟨m',p1,p2⟩:=HP.out;exact⟨rfl,m',p1,p2,λe=>absurd rfl e⟩
 .rw[AI hk];have hkb:(kind==2)=false:=by rw[Dy];exact hk
  have HP:=I (show∃m',KB w w1 b o m m'/\w1.ownsRow B 3 1 m' l.length (Aj l)/\(kind≠2->m'=m)from
   ⟨m,⟨hos.1,hos.2.1,hos.2.2,by rw[hs1];exact A9 _,λk _ hne _=>hk1 k hne,hc3,(ho1 _ J).trans r4,λj h1 _=>ho1 j h1,hf1,.inl rfl⟩,hown1,λ_=>rfl⟩)
  have HW1:=I hw1;clear hown hown1 hs1 hk1 hc3 ho1 hf1 hos hw1;go_enter Tryz.func174,Tryz.ntmps174;go_wp2_with fail
  go_end0
  exact⟨rfl,by rw[HW1];exact HP⟩
theorem VG(h b o B n:tyN)(kind v:tyI)(m:tyV)(wL:Bool)(l:tyL)(w:tyW)(ck:V w h 0 kind)(r3:V w b (o+3) wL)(r4:V w b (o+4) m)
  (fz:∀j,w.frozen? (aD b j)=false) (gm:tyN) (hm:m=BG gm 0 l.length l.length) (hrow:∀j u,(Aj l)[j]?=some u->V w gm j u) (hgm:B<=gm/\gm<w.heap.size) (hB:B<=w.heap.size) (hl:l.length<=100000) (hmb:m.ownBlock≠some b):
  Calls Tryz.prog 174 #[pT h,.pointer (some (aD b o)),v] w λe w'=>e=BA (.tuple #[])/\
   ∃m',KB w w' b o m m'/\D0 w' B m' (if kind=2 then l++[v]else l)/\(kind≠2->m'=m):=by
 have hbs:=AJ r3;have f3:=fz (o+3);have f4:=fz (o+4);obtain⟨w1,hw1⟩:=gX (w.setCell (aD b (o+3)) true);have hk1:∀k,k≠b->hSM w1 w k:=λk hne=>by rw[<-hw1];exact BF w ⟨b,o+3,none⟩ _ k hne
 have hs1:w1.heap.size=w.heap.size:=by rw[<-hw1];simp
 have hc3:V w1 b (o+3) true:=by rw[<-hw1];exact Ek _ _ _ r3
 have ho1:∀j,j≠o+3->w1.cell? (aD b j)=w.cell? (aD b j):=λj hj=>by rw[<-hw1];exact Ck _ _ _ _ (by simp<;>omega)
 have hf1:∀j,w1.frozen? (aD b j)=w.frozen? (aD b j):=λj=>by rw[<-hw1];simp[go_sem]
 have hos:w1.os=w.os/\w1.tape=w.tape/\w1.output=w.output:=by rw[<-hw1];exact⟨rfl,rfl,rfl⟩
 have rO:gm≠b:=λe=>hmb (by rw[hm,e];rfl)
 have dX:∀j u,(Aj l)[j]?=some u->V w1 gm j u:=λj u hu=>(CI (hk1 gm rO)).trans (hrow j u hu)
 by_cases hk:kind=2
 .rw[AK hk];subst hk;obtain⟨i0,hi,hz0,hz1,hz2⟩:=PY;subst hm
  have rP:=I (show∀bb,(some (⟨gm,0,none⟩:Addr))=some bb->∀j u,(Aj l)[j]?=some u->(w1.alloc (Y #[v] 3)).cell? (bb.add j)=some u from by
   intro bb hbb j u hu;simp only[Dt]at hbb;subst hbb;have h5:=dX j u hu;have h6:V (w1.alloc (Y #[v] 3)) gm j u:=(CI (JP w1 _ gm (AJ h5))).trans h5;rw[JC,Dw]
   exact h6)
  have HGM:=I hgm;have HGB:=I rO;have hcn:=CQ w1 [v] 3;rw[hs1]at hcn;have HCN:=I hcn;have H63:=I (show l.length+1<=maxLen/\(l.length+1)*8<=140737488355328 by unfold maxLen;omega);have H1C:=I (show∀u∈[Value.int .i64 v],u.oneCell'=true by intro u hu;simp at hu;subst hu;rfl);clear hcn;have EK:=I (show B<=(w1.alloc (Y #[v] 3)).heap.size by simp;omega);have HI:=I hi;have HZ0:=I hz0;have HZ1:=I hz1;have HZ2:=I hz2;have Pw:=I hs1;have ie:=I hk1;have Vl:=I hc3;have dW:=I ho1;have bC:=I hf1;have rM:=I hos;have oo:=I hmb;have HFZ:=I fz;have HR4:=I r4;have uC:(w1.alloc (Y #[v] 3)).heap.size=w1.heap.size+1:=Az;have S4:=I uC;have HL:=I hl;have jP:=I hbs;clear hrow dX hgm rO hi hz0 hz1 hz2 hs1 hk1 hc3 ho1 hf1 hos hmb fz hB uC hl;subst hw1;go_enter Tryz.func174,Tryz.ntmps174;go_wp2_with(at_builtin;refine wpList_append_grows _ rfl (.tmp 18) (.tmp 20) 25 rfl 3 i0 () 1 8 Tryz.underlying25 HI HZ0 HZ1 HZ2 rfl AQ (some ⟨gm,0,none⟩) l.length l.length (Aj l) rfl Az (by unfold Aj;simp) rP ⟨w.heap.size,0,none⟩ 1 1 [v] rfl rfl HCN H1C (I7 _) H63.1 H63.2 ?_)
  intro vv w1 hown1 hg
  obtain⟨A2,c2,rfl⟩:∃A c,vv=AR A (l.length+1) c:=by
   rcases hown1.2 with⟨hv,hn⟩|⟨g,cap,cur,hv,_⟩
   .exact absurd hn (Tz _)
   .exact⟨_,cap,hv⟩
  obtain⟨WE,hWE⟩:=gX (w.setCell (aD b (o+3)) true);rw[hWE]at Pw ie Vl dW bC rM hg S4;have hbl:∀k,k<WE.heap.size->True->hSM w1 WE k:=λk hk hne=>(hg.block k (by rw[S4];omega) Az).trans (JP WE _ k hk)
  have hbb:hSM w1 WE b:=hbl b (by have:=Pw.out;have:=jP.out;omega) trivial;have r4':V w1 b (o+4) (BG gm 0 l.length l.length):=(CI hbb).trans ((dW _ J).trans HR4);have f4':w1.frozen? (aD b (o+4))=false:=(C4 hbb).trans ((bC _).trans (HFZ _));have hge:=DS hown1
  have hgb:(Value.slice A2 (l.length+1) c2).ownBlock≠some b:=λe=>by
   have:=hge b e;have:=S4.out;have:=Pw.out;have:=jP.out;omega
  have HP:=I (show∃m',KB w (w1.setCell (aD b (o+4)) (AR A2 (l.length+1) c2)) b o (BG gm 0 l.length l.length) m'/\D0 (w1.setCell (aD b (o+4)) (AR A2 (l.length+1) c2)) B m' (l++[v])from by
   refine⟨(AR A2 (l.length+1) c2),⟨?_,?_,?_,?_,λk hk hne hno=>?_,?_,Ek _ _ _ r4',λj h1 h2=>?_,λj=>?_,?_⟩,?_⟩
   .exact hg.os.trans rM.1
   .exact hg.tape.trans rM.2.1
   .exact hg.output.trans rM.2.2
   .have h1:=hg.size;have h2:=S4.out;have h3:=Pw.out;simp only[World.size_setCell];omega
   .refine(BF w1 ⟨b,o+4,none⟩ _ k hne).trans ((hbl k (by have:=Pw.out;omega) trivial).trans (ie k hne))
   .refine(Ck _ _ _ _ Az).trans ((CI hbb).trans Vl)
   .refine(Ck _ _ _ _ (by simp<;>omega)).trans ((CI hbb).trans (dW j h1))
   .have:(w1.setCell (aD b (o+4)) (AR A2 (l.length+1) c2)).frozen? (aD b j)=w1.frozen? (aD b j):=by simp[go_sem]
    rw[this];exact(C4 hbb).trans (bC j)
   .refine .inr λk hk=>?_
    have h1:=hge k hk;have h2:=S4.out;have h3:=Pw.out;omega
   .have e:Aj (l++[v])=Aj l++[.int .i64 v]:=by unfold Aj;simp
    refine .inl ?_;rw[e,Gx];have h7:=AS (w':=w1.setCell (aD b (o+4)) (AR A2 (l.length+1) c2)) hown1 λk hk=>BF w1 ⟨b,o+4,none⟩ _ k (λe2=>hgb (by rw[hk,e2]))
    refine⟨h7.1,h7.2.imp id λ⟨g,cap,cur,e1,e2,e3⟩=>⟨g,cap,cur,e1,?_,e3⟩⟩;have h2:=S4.out;have h3:=Pw.out;have h4:=HGM.out
    omega)
  clear hown1 hg hbl hbb hgb hge;go_wp2_with fail
  go_end0
  obtain⟨m',p1,p2⟩:=HP.out;exact⟨rfl,m',p1,p2,λe=>absurd rfl e⟩
 .rw[AI hk];have hkb:(kind==2)=false:=by rw[Dy];exact hk
  have HP:=I (show∃m',KB w w1 b o m m'/\D0 w1 B m' l/\(kind≠2->m'=m)from
   ⟨m,⟨hos.1,hos.2.1,hos.2.2,by rw[hs1];exact A9 _,λk _ hne _=>hk1 k hne,hc3,(ho1 _ J).trans r4,λj h1 _=>ho1 j h1,hf1,.inl rfl⟩,.inr ⟨gm,hm,hgm.1,by rw[hs1];exact hgm.2,dX⟩,λ_=>rfl⟩)
  have HW1:=I hw1;clear hrow dX hgm rO hs1 hk1 hc3 ho1 hf1 hos hw1;go_enter Tryz.func174,Tryz.ntmps174;go_wp2_with fail
  go_end0
  exact⟨rfl,by rw[HW1];exact HP⟩
theorem D0.same{m:tyV}(h:D0 w B m l)(hs:w.heap.size<=w'.heap.size)(hk:∀k,m.ownBlock=some k->hSM w' w k):D0 w' B m l:=by
 rcases h with h|⟨g,hm,h1,h2,h3⟩
 .exact .inl (AS h hk)
 .exact .inr ⟨g,hm,h1,J,λj u hu=>(CI (hk g (by rw[hm];rfl))).trans (h3 j u hu)⟩
theorem D0.ge{m:tyV}(h:D0 w B m l):∀k,m.ownBlock=some k->B<=k/\k<w.heap.size:=by
 intro k hk;rcases h with h|⟨g,hm,h1,h2,h3⟩
 .exact⟨DS h k hk,(h.lt k hk).2⟩
 .rw[hm]at hk;simp only[Value.ownBlock,Dt]at hk;omega
theorem D0.form{m:tyV}(h:D0 w B m l):∃A c,m=AR A l.length c/\l.length<=c:=by
 rcases h with h|⟨g,hm,_⟩
 .rcases h.2 with⟨hv,hn⟩|⟨g,cap,cur,hv,_,_,h1,_⟩
  .exact⟨none,0,by rw[hv,hn],J⟩
  .exact⟨_,cap,hv,h1⟩
 .exact⟨_,_,hm,A9 _⟩
theorem LW(h b o B:tyN)(kind v:tyI)(m:tyV)(wL:Bool)(l:tyL)(w:tyW)(ck:V w h 0 kind)(r3:V w b (o+3) wL)(r4:V w b (o+4) m)
  (fz:∀j,w.frozen? (aD b j)=false) (hown:D0 w B m l) (hB:B<=w.heap.size) (hl:l.length<=100000) (hmb:m.ownBlock≠some b):
  Calls Tryz.prog 174 #[pT h,.pointer (some (aD b o)),v] w λe w'=>e=BA (.tuple #[])/\
   ∃m',KB w w' b o m m'/\D0 w' B m' (if kind=2 then l++[v]else l)/\(kind≠2->m'=m):=by
 rcases hown with hown|⟨g,hm,h1,h2,h3⟩
 .refine(Wn h b o B 0 kind v m wL l w ck r3 r4 fz hown hB hl hmb).mono ?_;rintro e w' ⟨he,m',hp,ho,hq⟩;exact⟨he,m',hp,.inl ho,hq⟩
 .exact VG h b o B 0 kind v m wL l w ck r3 r4 fz g hm h3 ⟨h1,h2⟩ hB hl hmb
def tM (w:tyW)(b o:tyN)(a:QA)(m:tyV):Prop:=w.cell? (aD b o)=some (.bool a.on)/\V w b (o+1) (.bool a.wr)/\V w b (o+2) a.val/\
 V w b (o+3) (.bool a.ov)/\V w b (o+4) m
structure CellIs (w:tyW)(h B:tyN)(c:CS)(ms:Nat->Value):Prop where
 sz:B<=w.heap.size
 k0:V w h 0 c.kind
 k1:V w h 1 c.top
 k2:V w h 2 c.value
 acc:∀i,i<8->tM w h (3+i*5) (c.B1 i) (ms i)
 fz:∀j,w.frozen? (aD h j)=false
 own:∀i,i<8->D0 w B (ms i) (c.B1 i).may
 apart:∀i,i<8->(ms i).ownBlock≠some h
 two:∀i j,i<8->j<8->i≠j->∀k,(ms i).ownBlock=some k->(ms j).ownBlock≠some k
theorem CellIs.lt{h:tyN}{c:CS}{ms:Nat->Value}(H:CellIs w h B c ms):h<w.heap.size:=AJ H.k0
def Q1:Value->Option (DataW Unit×List MemPlace)
 | .pointer none=>some (.nil,[])
 | .pointer (some ⟨h,0,none⟩)=>some (.lit (.int .i64 h),[])
 |_=>none
def Vc:Option Nat->Value
 |none=> .pointer none
 |some h=>pT h
def XO:Option Nat->DataW Unit
 |none=> .nil
 |some h=> .lit (.int .i64 h)
theorem ZZ(o:Option Nat):Q1 (Vc o)=some (XO o,[]):=by cases o<;>rfl
theorem Yl{v:tyV}{o:Option Nat}{ps:List MemPlace}(h:Q1 v=some (XO o,ps)):v=Vc o:=by
 cases v with
 |pointer p=>
  match p,o with
  |none,none=>rfl
  |none,some _=>simp[Q1,XO]at h
  |some ⟨b,0,none⟩,some q=>
   simp only[Q1,XO,Dt,bc,DataW.lit.injEq,Lit.int.injEq,dT]at h;have:b=q:=J;rw[this];rfl
  |some ⟨b,0,none⟩,none=>simp[Q1,XO]at h
  |some ⟨b,0,some s⟩,o=>simp[Q1]at h
  |some ⟨b,n+1,s⟩,o=>simp[Q1]at h
 |_=>simp[Q1]at h
theorem Q6:Maps.Keyed Tryz.prog 3:=Maps.int_keyed Tryz.underlying3
def kI (q:tyI):Lit:= .int .i64 q
def Wf (q:tyI):Prop:=(Lit.int .i64 q).wf=true
theorem N4(h:Wf q):keyOf Tryz.prog 3 q=some (kI q):=Maps.keyOf_int_mk Tryz.underlying3 h
theorem dP(w:tyW):(zeroValue 157).run Tryz.prog w= .ok (.pointer none) w:=Ay
def NO (W:tyW)(m sz:tyN)(F:Int->Option Nat):Prop:= ∃D,W.ownsMap Tryz.prog 3 Q1 m sz D/\∀q,Wf q->D.atKey (kI q) .nil=XO (F q)/\Maps.has D (kI q)=(F q).isSome
theorem NO.look{F:Int->Option Nat}(h:NO W m sz F)(hq:Wf q):(Instr.lookup 144 (.map (some m)) q false).run Tryz.prog W= .ok (Vc (F q)) W:=by
 obtain⟨D,hD,hF⟩:=h;obtain⟨v,ps,hrun,hv⟩:=hD.lookup Q6 Tryz.underlying144 (dP W) (ZZ none) (N4 hq);rw[show XO none= .nil from rfl,(hF q hq).1]at hv;rw[hrun,Yl hv]
theorem NO.O5{F:Int->Option Nat}(h:NO W m sz F)(hq:Wf q):(Instr.lookup 144 (.map (some m)) q true).run Tryz.prog W= .ok (.tuple #[Vc (F q),.bool (F q).isSome]) W:=by
 obtain⟨D,hD,hF⟩:=h;obtain⟨v,ps,hrun,hv⟩:=hD.look_ok Q6 Tryz.underlying144 (dP W) (ZZ none) (N4 hq);rw[show XO none= .nil from rfl,(hF q hq).1]at hv;rw[hrun,Yl hv,(hF q hq).2]
theorem NO.up{W':tyW}{F:Int->Option Nat}(h:NO W m sz F)(e:hSM W' W m):NO W' m sz F:=by
 obtain⟨D,⟨es,ck,hh,r⟩,hF⟩:=h;exact⟨D,⟨es,ck,e.trans hh,r⟩,hF⟩
theorem Z9(h:W.ownsMap Tryz.prog 3 Q1 m 0 (.map [])):NO W m 0 (λ_=>none):=⟨_,h,λq _=>⟨rfl,rfl⟩⟩
theorem NO.store{F:Int->Option Nat}(h:NO W m sz F)(hn:sz<maxLen)(hq:Wf q)(b:tyN):∃W',(Instr.mapUpdate 144 (.map (some m)) q (pT b)).run Tryz.prog W= .ok () W'/\NO W' m (sz+1) (λx=>if x=q then some b else F x)/\W.grownBy W' (some m):=by
 obtain⟨D,hD,hF⟩:=h;obtain⟨W',hrun,h1,h2⟩:=hD.update Q6 Tryz.underlying144 hn (N4 hq) (ZZ (some b));refine⟨W',hrun,⟨_,h1,λx hx=>?_⟩,h2⟩;by_cases e:x=q
 .subst e;rw[Maps.atKey_put_same hD.isMap (Q6.key (N4 hq)),Maps.has_put_same hD.isMap (Q6.key (N4 hq))];simp
 .have hne:kI x≠kI q:=λe2=>e (by unfold kI at e2;injection e2)
  rw[Maps.atKey_put_other hne,Maps.has_put_other hne];simp only[AI e];exact hF x hx
theorem NO.isLt{F:Int->Option Nat}(h:NO W m sz F):m<W.heap.size:=by
 obtain⟨D,hD,_⟩:=h;exact hD.lt
open Go.RowKit
theorem kF(b:tyN)(R:tyV)(many:tyI)(m:tyN)(by':Nat->Bool×Int)(n:tyI)(w:tyW)(HB:Hj w b R many m by'):
  Calls Tryz.prog 113 #[pT b,n] w λe w'=>e=BA (.bool (decide (0<=n/\n<many)))/\w'=w:=by
 have k1:=HB.k1;clear HB;by_cases h0:0<=n
 .by_cases h1:n<many
  .have he:decide (0<=n/\n<many)=true:=Fi ⟨h0,h1⟩;rw[he];clear he;go_enter Tryz.func113,Tryz.ntmps113
   go_wp2
   go_ret;exact⟨rfl,rfl⟩
  .have he:decide (0<=n/\n<many)=false:=DF (λh=>h1 h.2);have hd:decide (n<many)=false:=DF h1;rw[he];clear he h1;go_enter Tryz.func113,Tryz.ntmps113
   go_wp2
   go_ret;exact⟨rfl,rfl⟩
 .have he:decide (0<=n/\n<many)=false:=DF (λh=>h0 h.1);have hd:decide (0<=n)=false:=DF h0;rw[he];clear he;have h0':n<0:=J;clear h0;go_enter Tryz.func113,Tryz.ntmps113
  go_wp2
  go_ret;exact⟨rfl,rfl⟩
theorem FR(f:tyN)(w:tyW):Calls Tryz.prog 153 #[.func (.func f) #[] #[]] w λe w'=>e=BA (.func (.func 204) #[] #[pT w])/\w'=w.alloc (Y #[.func (.func f) #[] #[]] 226):=by
 go_enter Tryz.func153,Tryz.ntmps153
 go_wp2
 go_ret;exact⟨rfl,rfl⟩
theorem Ly(f:tyN)(b:Bool)(w:tyW):Calls Tryz.prog 162 #[.func (.func f) #[] #[],b] w λe w'=>e=BA (.func (.func 218) #[] #[pT w,pT (w+1)])/\w'=(w.alloc (Y #[.func (.func f) #[] #[]] 228)).alloc (Y #[b] 4):=by
 go_enter Tryz.func162,Tryz.ntmps162
 go_wp2
 go_ret;exact⟨rfl,rfl⟩
def lh (v:tyV):Option (DataW Value×List MemPlace):=some (.held v,[])
theorem QL:Maps.Keyed Tryz.prog 3:=Maps.int_keyed Tryz.underlying3
def Tm:Value:= .agg #[(),.nilFunc]
theorem jc(w:tyW):(zeroValue 203).run Tryz.prog w= .ok Tm w:=Ay
def OO (W:tyW)(m sz:tyN)(F:Int->Option Value):Prop:= ∃D,W.ownsMap Tryz.prog 3 lh m sz D/\∀q,Wf q->D.atKey (kI q) (.held Tm)= .held ((F q).getD Tm)/\Maps.has D (kI q)=(F q).isSome
theorem OO.O5(h:OO W m sz F)(hq:Wf q):(Instr.lookup 205 (.map (some m)) q true).run Tryz.prog W= .ok (.tuple #[(F q).getD Tm,.bool (F q).isSome]) W:=by
 obtain⟨D,hD,hF⟩:=h;obtain⟨v,ps,hrun,hv⟩:=hD.look_ok QL Tryz.underlying205 (jc W) (show lh Tm=some (.held Tm,[])from rfl) (N4 hq);rw[(hF q hq).1]at hv;unfold lh at hv;simp only[Dt,bc,DataW.held.injEq]at hv;rw[hrun,hv.1,(hF q hq).2]
theorem OO.up{W':tyW}(h:OO W m sz F)(e:hSM W' W m):OO W' m sz F:=by
 obtain⟨D,⟨es,ck,hh,r⟩,hF⟩:=h;exact⟨D,⟨es,ck,e.trans hh,r⟩,hF⟩
theorem OO.lt(h:OO W m sz F):m<W.heap.size:=by
 obtain⟨D,hD,_⟩:=h;exact hD.lt
theorem Zd(W:tyW):OO (W.alloc (.map #[] 0)) W.heap.size 0 (λ_=>none):=⟨_,World.ownsMap_made W Tryz.prog 3 lh,λq _=>⟨rfl,rfl⟩⟩
theorem OO.store(h:OO W m sz F)(hn:sz<maxLen)(hq:Wf q)(v:tyV):∃W',(Instr.mapUpdate 205 (.map (some m)) q v).run Tryz.prog W= .ok () W'/\OO W' m (sz+1) (λx=>if x=q then some v else F x)/\W.grownBy W' (some m):=by
 obtain⟨D,hD,hF⟩:=h;obtain⟨W',hrun,h1,h2⟩:=hD.update QL Tryz.underlying205 hn (N4 hq) (show lh v=some (.held v,[])from rfl);refine⟨W',hrun,⟨_,h1,λx hx=>?_⟩,h2⟩;by_cases e:x=q
 .subst e;rw[Maps.atKey_put_same hD.isMap (QL.key (N4 hq)),Maps.has_put_same hD.isMap (QL.key (N4 hq))];simp
 .have hne:kI x≠kI q:=λe2=>e (by unfold kI at e2;injection e2)
  rw[Maps.atKey_put_other hne,Maps.has_put_other hne];simp only[AI e];exact hF x hx
structure G0 (w0 W:tyW)(m sz:tyN)(F:Int->Option Value)(bx:List (Nat×Value×TypeId)):Prop where
 up:Up w0 W
 ge:w0.heap.size<=m
 map:OO W m sz F
 bx:∀b,b∈bx->BR W b.1 #[b.2.1] b.2.2/\w0.heap.size<=b.1/\b.1≠m
theorem G0.start(w:tyW):G0 w (w.alloc (.map #[] 0)) w.heap.size 0 (λ_=>none) []:=⟨(AV w).alloc _,A9 _,Zd w,λb hb=>by cases hb⟩
theorem G0.box{w0:tyW}{bx:List (Nat×Value×TypeId)}(h:G0 w0 W m sz F bx)(v:tyV)(t:TypeId):G0 w0 (W.alloc (Y #[v] t)) m sz F ((W.heap.size,v,t)::bx):=by
 have u:Up W (W.alloc (Y #[v] t)):=(AV W).alloc _;refine⟨h.up.alloc _,h.ge,h.map.up (u.block m h.map.lt),λb hb=>?_⟩;rcases BJ.1 hb with rfl|hb
 .exact⟨Ah W _,h.up.size,by have:=h.map.lt;show W.heap.size≠m;omega⟩
 .obtain⟨h1,h2⟩:=h.bx b hb;exact⟨(u.block _ (gE h1).1).trans h1,h2⟩
theorem G0.store{w0:tyW}{bx:List (Nat×Value×TypeId)}(h:G0 w0 W m sz F bx)(hn:sz<maxLen)(hq:Wf q)(v:tyV):∃W',(Instr.mapUpdate 205 (.map (some m)) q v).run Tryz.prog W= .ok () W'/\G0 w0 W' m (sz+1) (λx=>if x=q then some v else F x) bx:=by
 obtain⟨W',h1,h2,h3⟩:=h.map.store hn hq v;have hm:=h.ge;refine⟨W',h1,DL h.up (grownBy_below h3 h.up.size (λk e=>by cases e;exact hm)),h.ge,h2,λb hb=>?_⟩;obtain⟨g1,g2,g3⟩:=h.bx b hb;exact⟨(h3.block _ (gE g1).1 (λe=>g3 (by cases e;rfl))).trans g1,g2,g3⟩
def vo (w:tyW)(B:tyN)(kind f:tyN)(how:tyN)(v:tyV):Prop:=
 match how with
 |0=>v= .agg #[O (kind:tyI),.func (.func f) #[] #[]]
 |1=> ∃b,B<=b/\v= .agg #[O (kind:tyI),.func (.func 204) #[] #[pT b]]/\BR w b #[.func (.func f) #[] #[]] 226
 |k=> ∃b,B<=b/\v= .agg #[O (kind:tyI),.func (.func 218) #[] #[pT b,pT (b+1)]]/\BR w b #[.func (.func f) #[] #[]] 228/\BR w (b+1) #[.bool (k=3)] 4
def An:Nat->Nat×Nat×Nat
 |1=>(1,154,1)
 |2=>(1,155,1)
 |3=>(2,156,1)
 |4=>(2,157,1)
 |5=>(2,158,1)
 |6=>(3,159,1)
 |7=>(3,160,1)
 |8=>(4,161,0)
 |9=>(5,163,2)
 |10=>(5,164,2)
 |11=>(5,163,3)
 |12=>(5,164,3)
 |13=>(6,165,0)
 |14=>(6,166,1)
 |15=>(7,167,0)
 |16=>(7,168,0)
 |17=>(8,169,0)
 |_=>(0,0,0)
theorem Lt(w:tyW):Calls Tryz.prog 112 #[] w λe w'=>Up w w'/\∃m F,e=BA (.map (some m))/\OO w' m 17 F/\(∀q:Nat,1<=q->q<=17->∃v,F q=some v/\vo w' w.heap.size (An q).1 (An q).2.1 (An q).2.2 v)/\∀q:Int,(q<1\/17<q)->F q=none:=by
 have hmm:= @run_makeMap Tryz.prog;have HC:=I (G0.start w);go_enter Tryz.func112,Tryz.ntmps112;go_wp2_with fail;generalize w.alloc (.map #[] 0)=W0 at*;obtain⟨m,hm⟩:=gX w.heap.size;have HM:=I hm;rw[hm]at HC|-;clear hm;refine(FR _ _).mono ?_;rintro e w1 ⟨rfl,rfl⟩
 replace HC:=I (HC.box (.func (.func 154) #[] #[]) 226)
 generalize hb1:W0.heap.size=b1 at HC|-;clear hb1;generalize W0.alloc (Y #[.func (.func 154) #[] #[]] 226)=W1 at*;obtain⟨W2,hrun,hC⟩:=HC.store AQ (q:=1) (by show Wf 1;unfold Wf;decide) (.agg #[O 1,.func (.func 204) #[] #[pT b1]])
 replace HC:=I hC
 clear hC;go_wp2_with fail;clear hrun;refine(FR _ _).mono ?_;rintro e w1 ⟨rfl,rfl⟩
 replace HC:=I (HC.box (.func (.func 155) #[] #[]) 226)
 generalize hb2:W2.heap.size=b2 at HC|-;clear hb2;generalize W2.alloc (Y #[.func (.func 155) #[] #[]] 226)=W3 at*;obtain⟨W4,hrun,hC⟩:=HC.store AQ (q:=2) (by show Wf 2;unfold Wf;decide) (.agg #[O 1,.func (.func 204) #[] #[pT b2]])
 replace HC:=I hC
 clear hC;go_wp2_with fail;clear hrun;refine(FR _ _).mono ?_;rintro e w1 ⟨rfl,rfl⟩
 replace HC:=I (HC.box (.func (.func 156) #[] #[]) 226)
 generalize hb3:W4.heap.size=b3 at HC|-;clear hb3;generalize W4.alloc (Y #[.func (.func 156) #[] #[]] 226)=W5 at*;obtain⟨W6,hrun,hC⟩:=HC.store AQ (q:=3) (by show Wf 3;unfold Wf;decide) (.agg #[O 2,.func (.func 204) #[] #[pT b3]])
 replace HC:=I hC
 clear hC;go_wp2_with fail;clear hrun;refine(FR _ _).mono ?_;rintro e w1 ⟨rfl,rfl⟩
 replace HC:=I (HC.box (.func (.func 157) #[] #[]) 226)
 generalize hb4:W6.heap.size=b4 at HC|-;clear hb4;generalize W6.alloc (Y #[.func (.func 157) #[] #[]] 226)=W7 at*;obtain⟨W8,hrun,hC⟩:=HC.store AQ (q:=4) (by show Wf 4;unfold Wf;decide) (.agg #[O 2,.func (.func 204) #[] #[pT b4]])
 replace HC:=I hC
 clear hC;go_wp2_with fail;clear hrun;refine(FR _ _).mono ?_;rintro e w1 ⟨rfl,rfl⟩
 replace HC:=I (HC.box (.func (.func 158) #[] #[]) 226)
 generalize hb5:W8.heap.size=b5 at HC|-;clear hb5;generalize W8.alloc (Y #[.func (.func 158) #[] #[]] 226)=W9 at*;obtain⟨W10,hrun,hC⟩:=HC.store AQ (q:=5) (by show Wf 5;unfold Wf;decide) (.agg #[O 2,.func (.func 204) #[] #[pT b5]])
 replace HC:=I hC
 clear hC;go_wp2_with fail;clear hrun;refine(FR _ _).mono ?_;rintro e w1 ⟨rfl,rfl⟩
 replace HC:=I (HC.box (.func (.func 159) #[] #[]) 226)
 generalize hb6:W10.heap.size=b6 at HC|-;clear hb6;generalize W10.alloc (Y #[.func (.func 159) #[] #[]] 226)=W11 at*;obtain⟨W12,hrun,hC⟩:=HC.store AQ (q:=6) (by show Wf 6;unfold Wf;decide) (.agg #[O 3,.func (.func 204) #[] #[pT b6]])
 replace HC:=I hC
 clear hC;go_wp2_with fail;clear hrun;refine(FR _ _).mono ?_;rintro e w1 ⟨rfl,rfl⟩
 replace HC:=I (HC.box (.func (.func 160) #[] #[]) 226)
 generalize dY:W12.heap.size=b7 at HC|-;clear dY;generalize W12.alloc (Y #[.func (.func 160) #[] #[]] 226)=W13 at*;obtain⟨W14,hrun,hC⟩:=HC.store AQ (q:=7) (by show Wf 7;unfold Wf;decide) (.agg #[O 3,.func (.func 204) #[] #[pT b7]])
 replace HC:=I hC
 clear hC;go_wp2_with fail;clear hrun;obtain⟨W15,hrun,hC⟩:=HC.store AQ (q:=8) (by show Wf 8;unfold Wf;decide) (.agg #[O 4,.func (.func 161) #[] #[]])
 replace HC:=I hC
 clear hC;rw[hrun];go_simp;go_wp2_with fail;clear hrun;refine(Ly _ _ _).mono ?_;rintro e w1 ⟨rfl,rfl⟩
 replace HC:=I ((HC.box (.func (.func 163) #[] #[]) 228).box false 4)
 rw[Cy]at HC;generalize bD:W15.heap.size=b9 at HC|-;clear bD;generalize(W15.alloc (Y #[.func (.func 163) #[] #[]] 228)).alloc (Y #[false] 4)=W16 at*;obtain⟨W17,hrun,hC⟩:=HC.store AQ (q:=9) (by show Wf 9;unfold Wf;decide) (.agg #[O 5,.func (.func 218) #[] #[pT b9,pT (b9+1)]])
 replace HC:=I hC
 clear hC;go_wp2_with fail;clear hrun;refine(Ly _ _ _).mono ?_;rintro e w1 ⟨rfl,rfl⟩
 replace HC:=I ((HC.box (.func (.func 164) #[] #[]) 228).box false 4)
 rw[Cy]at HC;generalize AFO:W17.heap.size=b10 at HC|-;clear AFO;generalize(W17.alloc (Y #[.func (.func 164) #[] #[]] 228)).alloc (Y #[false] 4)=W18 at*;obtain⟨W19,hrun,hC⟩:=HC.store AQ (q:=10) (by show Wf 10;unfold Wf;decide) (.agg #[O 5,.func (.func 218) #[] #[pT b10,pT (b10+1)]])
 replace HC:=I hC
 clear hC;go_wp2_with fail;clear hrun;refine(Ly _ _ _).mono ?_;rintro e w1 ⟨rfl,rfl⟩
 replace HC:=I ((HC.box (.func (.func 163) #[] #[]) 228).box true 4)
 rw[Cy]at HC;generalize AFP:W19.heap.size=b11 at HC|-;clear AFP;generalize(W19.alloc (Y #[.func (.func 163) #[] #[]] 228)).alloc (Y #[true] 4)=W20 at*;obtain⟨W21,hrun,hC⟩:=HC.store AQ (q:=11) (by show Wf 11;unfold Wf;decide) (.agg #[O 5,.func (.func 218) #[] #[pT b11,pT (b11+1)]])
 replace HC:=I hC
 clear hC;go_wp2_with fail;clear hrun;refine(Ly _ _ _).mono ?_;rintro e w1 ⟨rfl,rfl⟩
 replace HC:=I ((HC.box (.func (.func 164) #[] #[]) 228).box true 4)
 rw[Cy]at HC;generalize AFQ:W21.heap.size=b12 at HC|-;clear AFQ;generalize(W21.alloc (Y #[.func (.func 164) #[] #[]] 228)).alloc (Y #[true] 4)=W22 at*;obtain⟨W23,hrun,hC⟩:=HC.store AQ (q:=12) (by show Wf 12;unfold Wf;decide) (.agg #[O 5,.func (.func 218) #[] #[pT b12,pT (b12+1)]])
 replace HC:=I hC
 clear hC;go_wp2_with fail;clear hrun;obtain⟨W24,hrun,hC⟩:=HC.store AQ (q:=13) (by show Wf 13;unfold Wf;decide) (.agg #[O 6,.func (.func 165) #[] #[]])
 replace HC:=I hC
 clear hC;rw[hrun];go_simp;go_wp2_with fail;clear hrun;refine(FR _ _).mono ?_;rintro e w1 ⟨rfl,rfl⟩
 replace HC:=I (HC.box (.func (.func 166) #[] #[]) 226)
 generalize AFR:W24.heap.size=b14 at HC|-;clear AFR;generalize W24.alloc (Y #[.func (.func 166) #[] #[]] 226)=W25 at*;obtain⟨W26,hrun,hC⟩:=HC.store AQ (q:=14) (by show Wf 14;unfold Wf;decide) (.agg #[O 6,.func (.func 204) #[] #[pT b14]])
 replace HC:=I hC
 clear hC;go_wp2_with fail;clear hrun;obtain⟨W27,hrun,hC⟩:=HC.store AQ (q:=15) (by show Wf 15;unfold Wf;decide) (.agg #[O 7,.func (.func 167) #[] #[]])
 replace HC:=I hC
 clear hC;rw[hrun];go_simp;go_wp2_with fail;clear hrun;obtain⟨W28,hrun,hC⟩:=HC.store AQ (q:=16) (by show Wf 16;unfold Wf;decide) (.agg #[O 7,.func (.func 168) #[] #[]])
 replace HC:=I hC
 clear hC;rw[hrun];go_simp;go_wp2_with fail;clear hrun;obtain⟨W29,hrun,hC⟩:=HC.store AQ (q:=17) (by show Wf 17;unfold Wf;decide) (.agg #[O 8,.func (.func 169) #[] #[]])
 replace HC:=I hC
 clear hC;rw[hrun];go_simp;go_wp2_with fail;clear hrun;go_ret;have hx:=HC.bx;rw[HM]at hx;refine⟨HC.up,_,_,rfl,HC.map,?_,λq hq=>?_⟩
 .rw[HM];clear HM;intro q h1 h2
  match q,h1,h2 with
  |1,_,_=>
   obtain⟨g1,g2,_⟩:=hx (b1,.func (.func 154) #[] #[],226) Az;exact⟨.agg #[O 1,.func (.func 204) #[] #[pT b1]],Az,b1,g2,rfl,g1⟩
  |2,_,_=>
   obtain⟨g1,g2,_⟩:=hx (b2,.func (.func 155) #[] #[],226) Az;exact⟨.agg #[O 1,.func (.func 204) #[] #[pT b2]],Az,b2,g2,rfl,g1⟩
  |3,_,_=>
   obtain⟨g1,g2,_⟩:=hx (b3,.func (.func 156) #[] #[],226) Az;exact⟨.agg #[O 2,.func (.func 204) #[] #[pT b3]],Az,b3,g2,rfl,g1⟩
  |4,_,_=>
   obtain⟨g1,g2,_⟩:=hx (b4,.func (.func 157) #[] #[],226) Az;exact⟨.agg #[O 2,.func (.func 204) #[] #[pT b4]],Az,b4,g2,rfl,g1⟩
  |5,_,_=>
   obtain⟨g1,g2,_⟩:=hx (b5,.func (.func 158) #[] #[],226) Az;exact⟨.agg #[O 2,.func (.func 204) #[] #[pT b5]],Az,b5,g2,rfl,g1⟩
  |6,_,_=>
   obtain⟨g1,g2,_⟩:=hx (b6,.func (.func 159) #[] #[],226) Az;exact⟨.agg #[O 3,.func (.func 204) #[] #[pT b6]],Az,b6,g2,rfl,g1⟩
  |7,_,_=>
   obtain⟨g1,g2,_⟩:=hx (b7,.func (.func 160) #[] #[],226) Az;exact⟨.agg #[O 3,.func (.func 204) #[] #[pT b7]],Az,b7,g2,rfl,g1⟩
  |8,_,_=>exact⟨.agg #[O 4,.func (.func 161) #[] #[]],Az,rfl⟩
  |9,_,_=>
   obtain⟨g1,g2,_⟩:=hx (b9,.func (.func 163) #[] #[],228) Az;obtain⟨g3,_,_⟩:=hx (b9+1,false,4) Az;exact⟨.agg #[O 5,.func (.func 218) #[] #[pT b9,pT (b9+1)]],Az,b9,g2,rfl,g1,g3⟩
  |10,_,_=>
   obtain⟨g1,g2,_⟩:=hx (b10,.func (.func 164) #[] #[],228) Az;obtain⟨g3,_,_⟩:=hx (b10+1,false,4) Az;exact⟨.agg #[O 5,.func (.func 218) #[] #[pT b10,pT (b10+1)]],Az,b10,g2,rfl,g1,g3⟩
  |11,_,_=>
   obtain⟨g1,g2,_⟩:=hx (b11,.func (.func 163) #[] #[],228) Az;obtain⟨g3,_,_⟩:=hx (b11+1,true,4) Az;exact⟨.agg #[O 5,.func (.func 218) #[] #[pT b11,pT (b11+1)]],Az,b11,g2,rfl,g1,g3⟩
  |12,_,_=>
   obtain⟨g1,g2,_⟩:=hx (b12,.func (.func 164) #[] #[],228) Az;obtain⟨g3,_,_⟩:=hx (b12+1,true,4) Az;exact⟨.agg #[O 5,.func (.func 218) #[] #[pT b12,pT (b12+1)]],Az,b12,g2,rfl,g1,g3⟩
  |13,_,_=>exact⟨.agg #[O 6,.func (.func 165) #[] #[]],Az,rfl⟩
  |14,_,_=>
   obtain⟨g1,g2,_⟩:=hx (b14,.func (.func 166) #[] #[],226) Az;exact⟨.agg #[O 6,.func (.func 204) #[] #[pT b14]],Az,b14,g2,rfl,g1⟩
  |15,_,_=>exact⟨.agg #[O 7,.func (.func 167) #[] #[]],Az,rfl⟩
  |16,_,_=>exact⟨.agg #[O 7,.func (.func 168) #[] #[]],Az,rfl⟩
  |17,_,_=>exact⟨.agg #[O 8,.func (.func 169) #[] #[]],Az,rfl⟩
  |q+18,_,h2=>omega
 .repeat rw[AI J]
structure Hk where
 kind:Int
 AW:Int
 mode:Int
 room:Int
 arg:Int
 writer:Int
 reader:Int
 top:Int
structure tB where
 AW:Int
 n:Int
 mode:Int
 base:Int
 loc:Int
 room:Int
structure P7 where
 kind:Int
 base:Int
 loc:Int
 n:Int
 writer:Int
 reader:Int
 top:Int
structure GU where
 th:Hk
 lk:tB
 rg:P7
 base:Int
 loc:Int
def OM (t:Hk):List Value:=[.int .i64 t.kind,.int .i64 t.AW,.int .i64 t.mode,.int .i64 t.room,.int .i64 t.arg,.int .i64 t.writer,.int .i64 t.reader,.int .i64 t.top]
def cP (k:tB):List Value:=[.int .i64 k.AW,.int .i64 k.n,.int .i64 k.mode,.int .i64 k.base,.int .i64 k.loc,.int .i64 k.room]
def qT (r:P7):List Value:=[.int .i64 r.kind,.int .i64 r.base,.int .i64 r.loc,.int .i64 r.n,.int .i64 r.writer,.int .i64 r.reader,.int .i64 r.top]
def JE (o:GU):List Value:=OM o.th++cP o.lk++qT o.rg++[.int .i64 o.base,.int .i64 o.loc]
def Ob (o:GU):Array Value:= #[.int .i64 o.th.kind,.int .i64 o.th.AW,.int .i64 o.th.mode,.int .i64 o.th.room,.int .i64 o.th.arg,.int .i64 o.th.writer,.int .i64 o.th.reader,.int .i64 o.th.top,
 .int .i64 o.lk.AW,.int .i64 o.lk.n,.int .i64 o.lk.mode,.int .i64 o.lk.base,.int .i64 o.lk.loc,.int .i64 o.lk.room,
 .int .i64 o.rg.kind,.int .i64 o.rg.base,.int .i64 o.rg.loc,.int .i64 o.rg.n,.int .i64 o.rg.writer,.int .i64 o.rg.reader,.int .i64 o.rg.top,.int .i64 o.base,.int .i64 o.loc]
theorem jq(o:GU):Ob o=(JE o).toArray:=rfl
def MG (o:GU):Value:= .agg (Ob o)
theorem SQ.obj{k:tyN}{cs:Array Value}(h:BR w k cs 132):SQ B w k:=λ_ cs' e he=>by
 rw[h]at he;simp only[Dt,Xc,P9]at he;obtain⟨_,rfl⟩:=he;decide
def I3 (mine:tyI)(acq:Op Int):Op Int:= .get mine λh=>if h=1 then .ret 10 else acq.bind λe=>if e=0 then .set mine 1 (.ret e)else .ret e
def Iy (mine:tyI)(rel:Op Unit):Op Int:= .get mine λh=>if h=1 then rel.bind λ_=> .set mine 0 (.ret 0)else .ret 9
def IZ (o:Op Int):Op RD:=o.bind λe=> .ret (e,0)
theorem Zh(o:GU)(acq:Op Int)(me:tyI)(g B:tyN)(s0:TS)(W:tyW)(h:AX W g B s0)
  (hl:∀W',Up W W'->AX W' g B s0->Calls Tryz.prog 206 #[pT g,.agg #[o.lk.AW,o.lk.n,o.lk.mode,o.lk.base,o.lk.loc,o.lk.room],me] W' (AP encI g B W' (acq.BH s0))):
  Calls Tryz.prog 154 #[pT g,MG o,me] W (AP encI g B W ((I3 o.loc acq).BH s0)):=by
 obtain⟨R,hE⟩:=gX ((I3 o.loc acq).BH s0);rw[hE];unfold MG Ob;have hb:=Ah W (Y #[o.th.kind,o.th.AW,o.th.mode,o.th.room,o.th.arg,o.th.writer,o.th.reader,o.th.top,o.lk.AW,o.lk.n,o.lk.mode,o.lk.base,o.lk.loc,o.lk.room,o.rg.kind,o.rg.base,o.rg.loc,o.rg.n,o.rg.writer,o.rg.reader,o.rg.top,o.base,o.loc] 132);have hu:Up W (W.alloc (Y #[o.th.kind,o.th.AW,o.th.mode,o.th.room,o.th.arg,o.th.writer,o.th.reader,o.th.top,o.lk.AW,o.lk.n,o.lk.mode,o.lk.base,o.lk.loc,o.lk.room,o.rg.kind,o.rg.base,o.rg.loc,o.rg.n,o.rg.writer,o.rg.reader,o.rg.top,o.base,o.loc] 132)):=(AV W).alloc _;have hg:W.heap.size≠g:=by have:=h.1.gs;omega
 have HK:=I (show Kl (W.alloc (Y #[o.th.kind,o.th.AW,o.th.mode,o.th.room,o.th.arg,o.th.writer,o.th.reader,o.th.top,o.lk.AW,o.lk.n,o.lk.mode,o.lk.base,o.lk.loc,o.lk.room,o.rg.kind,o.rg.base,o.rg.loc,o.rg.n,o.rg.writer,o.rg.reader,o.rg.top,o.base,o.loc] 132)) g B s0.ans s0.Bi.length _ s0 from Kl.start (h.up hu));have HU:=I hu;have HE:=I hE;have HQ:=I (λ(W':tyW) (u:Up (W.alloc (Y #[o.th.kind,o.th.AW,o.th.mode,o.th.room,o.th.arg,o.th.writer,o.th.reader,o.th.top,o.lk.AW,o.lk.n,o.lk.mode,o.lk.base,o.lk.loc,o.lk.room,o.rg.kind,o.rg.base,o.rg.loc,o.rg.n,o.rg.writer,o.rg.reader,o.rg.top,o.base,o.loc] 132)) W') (ht:AX W' g B s0)=>hl W' (hu.trans u) ht);have HBY:=I (λ(wr:tyW) (hk:TK g B (W.alloc (Y #[o.th.kind,o.th.AW,o.th.mode,o.th.room,o.th.arg,o.th.writer,o.th.reader,o.th.top,o.lk.AW,o.lk.n,o.lk.mode,o.lk.base,o.lk.loc,o.lk.room,o.rg.kind,o.rg.base,o.rg.loc,o.rg.n,o.rg.writer,o.rg.reader,o.rg.top,o.base,o.loc] 132)) wr)=>(hk.block W.heap.size (gE hb).1 hg (SQ.obj hb)).trans hb);have nI:=I (λ(wr:tyW) (s:TS) (m:tyN) (hk:Kl (W.alloc (Y #[o.th.kind,o.th.AW,o.th.mode,o.th.room,o.th.arg,o.th.writer,o.th.reader,o.th.top,o.lk.AW,o.lk.n,o.lk.mode,o.lk.base,o.lk.loc,o.lk.room,o.rg.kind,o.rg.base,o.rg.loc,o.rg.n,o.rg.writer,o.rg.reader,o.rg.top,o.base,o.loc] 132)) g B s0.ans m wr s)=>hk.block hb hg AQ);have c8:=cI hb 8;have c9:=cI hb 9;have c10:=cI hb 10;have c11:=cI hb 11;have c12:=cI hb 12;have c13:=cI hb 13;have rQ:=cI hb 22;clear hb hu hg h hE hl;unfold I3 at HE;go_enter Tryz.func154,Tryz.ntmps154;go_wp2_with fail;generalize W.alloc (Y #[o.th.kind,o.th.AW,o.th.mode,o.th.room,o.th.arg,o.th.writer,o.th.reader,o.th.top,o.lk.AW,o.lk.n,o.lk.mode,o.lk.base,o.lk.loc,o.lk.room,o.rg.kind,o.rg.base,o.rg.loc,o.rg.n,o.rg.writer,o.rg.reader,o.rg.top,o.base,o.loc] 132)=W1 at*;refine(bj HK HE).mono ?_;rintro e w2 ⟨rfl,hw2,HE2⟩;subst hw2
 try dsimp only at HE2
 clear HE;by_cases hh:s0.get o.loc=1
 .rw[AK hh]at HE2;rw[hh];have UP:=I HE2.out;clear HE2
  go_wp2
  go_ret;exact AP.some UP.symm ⟨rfl,HK.tape,HK.base HU⟩
 .rw[AI hh]at HE2;have e1:(s0.get o.loc==1)=false:=by rw[Dy];exact hh
  generalize s0.get o.loc=x at*;go_wp2_with fail;refine(Aw (HQ _ (AV _) HK.tape) HE2).mono ?_;rintro e w3 (⟨s',rfl,hT,hK,hR⟩|⟨v,s1,rfl,hT,hK,UP⟩)
  .go_wp2
   exact⟨rfl,AP.none hR.out ⟨rfl,hT.out,(TK.Bp HU).trans hK.out⟩⟩
  have ic:=I (show TK g B w2 w3 from hK.out)
  try dsimp only at UP
  have HT3:=I hT.out;clear HE2 c8 c9 c10 c11 c12 c13 rQ;by_cases hv:v=0
  .subst hv;rw[AK rfl]at UP;have wK:=I UP.out;have MC:=I (show Kl w3 g B s1.ans s1.Bi.length w3 s1 from Kl.start hT.out);have rQ:=Ar _ _ 22 _ _ _ (HBY w3 hK.out);simp only[Iv,Is,I6]at rQ;clear UP hT hK;unfold encI;go_wp2_with fail;refine(cO MC wK).mono ?_;rintro e w4 ⟨rfl,UQ,M6,-⟩;clear rQ
   go_wp2
   go_ret;exact AP.some UQ.symm ⟨rfl,M6.tape,((TK.Bp HU).trans ic).trans M6.tk⟩
  .rw[AI hv]at UP;have wK:=I UP.out;have e2:(v==0)=false:=by rw[Dy];exact hv
   clear UP hT hK;unfold encI
   go_wp2
   go_ret;exact AP.some wK.symm ⟨rfl,HT3,(TK.Bp HU).trans ic⟩
theorem ae(o:GU)(rel:Op Unit)(me:tyI)(g B:tyN)(s0:TS)(W:tyW)(h:AX W g B s0)
  (hl:∀W',Up W W'->AX W' g B s0->Calls Tryz.prog 208 #[pT g,.agg #[o.lk.AW,o.lk.n,o.lk.mode,o.lk.base,o.lk.loc,o.lk.room],me] W' (AP Mq g B W' (rel.BH s0))):
  Calls Tryz.prog 155 #[pT g,MG o,me] W (AP encI g B W ((Iy o.loc rel).BH s0)):=by
 obtain⟨R,hE⟩:=gX ((Iy o.loc rel).BH s0);rw[hE];unfold MG Ob;have hb:=Ah W (Y #[o.th.kind,o.th.AW,o.th.mode,o.th.room,o.th.arg,o.th.writer,o.th.reader,o.th.top,o.lk.AW,o.lk.n,o.lk.mode,o.lk.base,o.lk.loc,o.lk.room,o.rg.kind,o.rg.base,o.rg.loc,o.rg.n,o.rg.writer,o.rg.reader,o.rg.top,o.base,o.loc] 132);have hu:Up W (W.alloc (Y #[o.th.kind,o.th.AW,o.th.mode,o.th.room,o.th.arg,o.th.writer,o.th.reader,o.th.top,o.lk.AW,o.lk.n,o.lk.mode,o.lk.base,o.lk.loc,o.lk.room,o.rg.kind,o.rg.base,o.rg.loc,o.rg.n,o.rg.writer,o.rg.reader,o.rg.top,o.base,o.loc] 132)):=(AV W).alloc _;have hg:W.heap.size≠g:=by have:=h.1.gs;omega
 have HK:=I (show Kl (W.alloc (Y #[o.th.kind,o.th.AW,o.th.mode,o.th.room,o.th.arg,o.th.writer,o.th.reader,o.th.top,o.lk.AW,o.lk.n,o.lk.mode,o.lk.base,o.lk.loc,o.lk.room,o.rg.kind,o.rg.base,o.rg.loc,o.rg.n,o.rg.writer,o.rg.reader,o.rg.top,o.base,o.loc] 132)) g B s0.ans s0.Bi.length _ s0 from Kl.start (h.up hu));have HU:=I hu;have HE:=I hE;have HQ:=I (λ(W':tyW) (u:Up (W.alloc (Y #[o.th.kind,o.th.AW,o.th.mode,o.th.room,o.th.arg,o.th.writer,o.th.reader,o.th.top,o.lk.AW,o.lk.n,o.lk.mode,o.lk.base,o.lk.loc,o.lk.room,o.rg.kind,o.rg.base,o.rg.loc,o.rg.n,o.rg.writer,o.rg.reader,o.rg.top,o.base,o.loc] 132)) W') (ht:AX W' g B s0)=>hl W' (hu.trans u) ht);have HBY:=I (λ(wr:tyW) (hk:TK g B (W.alloc (Y #[o.th.kind,o.th.AW,o.th.mode,o.th.room,o.th.arg,o.th.writer,o.th.reader,o.th.top,o.lk.AW,o.lk.n,o.lk.mode,o.lk.base,o.lk.loc,o.lk.room,o.rg.kind,o.rg.base,o.rg.loc,o.rg.n,o.rg.writer,o.rg.reader,o.rg.top,o.base,o.loc] 132)) wr)=>(hk.block W.heap.size (gE hb).1 hg (SQ.obj hb)).trans hb);have nI:=I (λ(wr:tyW) (s:TS) (m:tyN) (hk:Kl (W.alloc (Y #[o.th.kind,o.th.AW,o.th.mode,o.th.room,o.th.arg,o.th.writer,o.th.reader,o.th.top,o.lk.AW,o.lk.n,o.lk.mode,o.lk.base,o.lk.loc,o.lk.room,o.rg.kind,o.rg.base,o.rg.loc,o.rg.n,o.rg.writer,o.rg.reader,o.rg.top,o.base,o.loc] 132)) g B s0.ans m wr s)=>hk.block hb hg AQ);have c8:=cI hb 8;have c9:=cI hb 9;have c10:=cI hb 10;have c11:=cI hb 11;have c12:=cI hb 12;have c13:=cI hb 13;have rQ:=cI hb 22;clear hb hu hg h hE hl;unfold Iy at HE;go_enter Tryz.func155,Tryz.ntmps155;go_wp2_with fail;generalize W.alloc (Y #[o.th.kind,o.th.AW,o.th.mode,o.th.room,o.th.arg,o.th.writer,o.th.reader,o.th.top,o.lk.AW,o.lk.n,o.lk.mode,o.lk.base,o.lk.loc,o.lk.room,o.rg.kind,o.rg.base,o.rg.loc,o.rg.n,o.rg.writer,o.rg.reader,o.rg.top,o.base,o.loc] 132)=W1 at*;refine(bj HK HE).mono ?_;rintro e w2 ⟨rfl,hw2,HE2⟩;subst hw2
 try dsimp only at HE2
 clear HE;by_cases hh:s0.get o.loc=1;rotate_left
 .rw[AI hh]at HE2;have e1:(s0.get o.loc !=1)=true:=by rw[Ol];exact hh
  generalize s0.get o.loc=x at*;have UP:=I HE2.out;clear HE2
  go_wp2
  go_ret;exact AP.some UP.symm ⟨rfl,HK.tape,HK.base HU⟩
 .rw[AK hh]at HE2;rw[hh];go_wp2_with fail;refine(Aw (HQ _ (AV _) HK.tape) HE2).mono ?_;rintro e w3 (⟨s',rfl,hT,hK,hR⟩|⟨v,s1,rfl,hT,hK,UP⟩)
  .go_wp2
   exact⟨rfl,AP.none hR.out ⟨rfl,hT.out,(TK.Bp HU).trans hK.out⟩⟩
  have ic:=I (show TK g B w2 w3 from hK.out)
  try dsimp only at UP
  have MC:=I (show Kl w3 g B s1.ans s1.Bi.length w3 s1 from Kl.start hT.out);clear HE2 c8 c9 c10 c11 c12 c13 rQ;have rQ:=Ar _ _ 22 _ _ _ (HBY w3 hK.out);simp only[Iv,Is,I6]at rQ;clear hT hK;go_wp2_with fail;refine(cO MC UP).mono ?_;rintro e w4 ⟨rfl,UQ,M6,-⟩;clear rQ
  go_wp2
  go_ret;exact AP.some UQ.symm ⟨rfl,M6.tape,((TK.Bp HU).trans ic).trans M6.tk⟩
end
section
structure OAt (o:GU)
def vU (o:GU):OAt o:=⟨⟩
instance zDa {o}:CoeOut (OAt o) (Array Value):=⟨λ_=> #[o.th.kind,o.th.AW,o.th.mode,o.th.room,o.th.arg,o.th.writer,o.th.reader,o.th.top,o.lk.AW,o.lk.n,o.lk.mode,o.lk.base,o.lk.loc,o.lk.room,o.rg.kind,o.rg.base,o.rg.loc,o.rg.n,o.rg.writer,o.rg.reader,o.rg.top,o.base,o.loc]⟩
end
section
open Go.RowKit
def I9 (w:tyW)(A:tyA)(l:List (Int×Int×Int)):Prop:= ∀k,k<l.length->∃b off,A=some ⟨b,off,none⟩/\
 V w b (off+k*3) (O (l.getD k (0,0,0)).1)/\V w b (off+k*3+1) (O (l.getD k (0,0,0)).2.1)/\V w b (off+k*3+2) (O (l.getD k (0,0,0)).2.2)
def GK (w:tyW)(A:tyA)(l:List (Int×Int)):Prop:= ∀k,k<l.length->∃b off,A=some ⟨b,off,none⟩/\
 V w b (off+k*2) (O (l.getD k (0,0)).1)/\V w b (off+k*2+1) (O (l.getD k (0,0)).2)
def YF (N g:tyN)(A:tyA)(m c:tyN)(A':tyA)(m' c':tyN)(dd:tyA)(m'' c'':tyN)(w:tyW):Prop:=
 V w (N+1+1+1) 0 (pT g)/\V w g 3 (AR A m c)/\V w g 4 (AR A' m' c')/\V w g 2 (AR dd m'' c'')
theorem YF.up{N g:tyN}{A':tyA}{m' c':tyN}{dd:tyA}{m'' c'':tyN}(h:YF N g A m c A' m' c' dd m'' c'' w)(hU:Up w w'):YF N g A m c A' m' c' dd m'' c'' w':=
 ⟨(hU.cell (p:=aD (N+1+1+1) 0) (AJ h.1)).trans h.1,(hU.cell (p:=aD g 3) (AJ h.2.1)).trans h.2.1,(hU.cell (p:=aD g 4) (AJ h.2.2.1)).trans h.2.2.1,(hU.cell (p:=aD g 2) (AJ h.2.2.2)).trans h.2.2.2⟩
theorem Qt:∀(l:List (Int×Int×Int)) (k:tyN),k<l.length->(DP l)[k*3]?=SY (O (l.getD k (0,0,0)).1)/\(DP l)[k*3+1]?=SY (O (l.getD k (0,0,0)).2.1)/\(DP l)[k*3+2]?=SY (O (l.getD k (0,0,0)).2.2)
 |[],k,h=>by simp at h
 |a::l,0,h=>by simp[DP]
 |a::l,k+1,h=>by
  have:=Qt l k (Cw h);have e:DP (a::l)= .int .i64 a.1:: .int .i64 a.2.1:: .int .i64 a.2.2::DP l:=rfl;rw[e,mN];simpa using this
theorem Ql:∀(l:List (Int×Int)) (k:tyN),k<l.length->(Dl l)[k*2]?=SY (O (l.getD k (0,0)).1)/\(Dl l)[k*2+1]?=SY (O (l.getD k (0,0)).2)
 |[],k,h=>by simp at h
 |a::l,0,h=>by simp[Dl]
 |a::l,k+1,h=>by
  have:=Ql l k (Cw h);have e:Dl (a::l)= .int .i64 a.1:: .int .i64 a.2::Dl l:=rfl;rw[e,mN];simpa using this
theorem pJ{l:List (Int×Int×Int)}(h:w.ownsRow B e 3 (AR A l.length c) l.length (DP l)):I9 w A l:=λk hk=>by
 obtain⟨h1,h2,h3⟩:=Qt l k hk;rcases h.2 with⟨_,h0⟩|⟨g,cap,cur,hv,_⟩
 .omega
 .simp only[MI]at hv;obtain⟨rfl,_,rfl⟩:=hv;refine⟨g,0,rfl,?_,?_,?_⟩
  .rw[Dw,h.cellAt _ J];exact h1
  .rw[Dw,h.cellAt _ J];exact h2
  .rw[Dw,h.cellAt _ J];exact h3
theorem mI{l:List (Int×Int)}(h:w.ownsRow B e 2 (AR A l.length c) l.length (Dl l)):GK w A l:=λk hk=>by
 obtain⟨h1,h2⟩:=Ql l k hk;rcases h.2 with⟨_,h0⟩|⟨g,cap,cur,hv,_⟩
 .omega
 .simp only[MI]at hv;obtain⟨rfl,_,rfl⟩:=hv;refine⟨g,0,rfl,?_,?_⟩
  .rw[Dw,h.cellAt _ J];exact h1
  .rw[Dw,h.cellAt _ J];exact h2
theorem I9.keep{l:List (Int×Int×Int)}(h:I9 w A l)(hk:∀b,b<w.heap.size->(∃off,A=some ⟨b,off,none⟩)->hSM w' w b):I9 w' A l:=λk hlt=>by
 obtain⟨b,off,e,h1,h2,h3⟩:=h k hlt;have:=hk b (AJ h1) ⟨off,e⟩;exact⟨b,off,e,(Ak this).trans h1,(Ak this).trans h2,(Ak this).trans h3⟩
theorem GK.keep{l:List (Int×Int)}(h:GK w A l)(hk:∀b,b<w.heap.size->(∃off,A=some ⟨b,off,none⟩)->hSM w' w b):GK w' A l:=λk hlt=>by
 obtain⟨b,off,e,h1,h2⟩:=h k hlt;have:=hk b (AJ h1) ⟨off,e⟩;exact⟨b,off,e,(Ak this).trans h1,(Ak this).trans h2⟩
theorem I9.up{l:List (Int×Int×Int)}(h:I9 w A l)(hU:Up w w'):I9 w' A l:=h.keep λb hb _=>hU.block b hb
theorem GK.up{l:List (Int×Int)}(h:GK w A l)(hU:Up w w'):GK w' A l:=h.keep λb hb _=>hU.block b hb
theorem G9(h:w.ownsRow B e size (AR A n c) n xs):∀b off,A=some ⟨b,off,none⟩->B<=b:=λb off hA=>by
 rcases h.2 with⟨hv,_⟩|⟨g,cap,cur,hv,hb,_⟩
 .simp only[MI]at hv;rw[hv.1]at hA;cases hA
 .simp only[MI]at hv;rw[hv.1]at hA;cases hA;exact hb
theorem LR(h:w.ownsRow B e size (AR A n c) n xs):A=none->c=0:=λhA=>by
 rcases h.2 with⟨hv,_⟩|⟨g,cap,cur,hv,hb,_⟩
 .simp only[MI]at hv;exact hv.2.2
 .simp only[MI]at hv;rw[hv.1]at hA;cases hA
def Gn (w:tyW)(b:tyN)(v0 v1 v2 v3:tyV):World:=(((w.setCell (aD b 0) v0).setCell (aD b 1) v1).setCell (aD b 2) v2).setCell (aD b 3) v3
theorem OV{t:TypeId}{x0 x1 x2 x3:tyV}(v0 v1 v2 v3:tyV)(h:BR w b #[x0,x1,x2,x3] t):BR (Gn w b v0 v1 v2 v3) b #[v0,v1,v2,v3] t:=by
 unfold Gn;rw[VZ _ _ _ _ _ _ (VZ _ _ _ _ _ _ (VZ _ _ _ _ _ _ (VZ _ _ _ _ _ _ h)))];rfl
theorem CO(w:tyW)(b k:tyN)(v0 v1 v2 v3:tyV)(h:k≠b):hSM (Gn w b v0 v1 v2 v3) w k:=by
 unfold Gn;rw[BF _ _ _ _ h,BF _ _ _ _ h,BF _ _ _ _ h,BF _ _ _ _ h]
theorem Jy(w:tyW)(b N:tyN)(v0 v1 v2 v3:tyV)(h:N<=b):Below N w (Gn w b v0 v1 v2 v3):=
 ((((Hx N w).setCell (p:=aD b 0) h _).setCell (p:=aD b 1) h _).setCell (p:=aD b 2) h _).setCell (p:=aD b 3) h _
theorem pF:Tryz.prog.info? 196=some Tryz.t196:=Ay
theorem A5.low{g:tyN}{st:tyI}{s:TS}(h:A5 w g B st s)(hb:b<g)(hb2:g<=b+2)(hs:w.heap.size<=w'.heap.size)(hk:∀k,k<w.heap.size->k≠b->hSM w' w k):A5 w' g B st s:=by
 have hgB:=h.gB;have hg:=hk g h.gs J;have hrow:∀e k cs,B<=k->BR w k cs e->hSM w' w k:=λe k cs hB hh=>hk k (gE hh).1 J
 refine⟨h.gB,DB h.sz hs,(Ak hg).trans h.c0,λj=>(Fm hg).trans (h.fz j),?_,?_,?_,?_,h.la,h.lb,h.ll⟩
 .obtain⟨A,c,h1,h2,h3⟩:=h.ans;refine⟨A,c,(Ak hg).trans h1,λk hlt=>?_,h3⟩;obtain⟨b',off,e,hc⟩:=h2 k hlt;exact⟨b',off,e,(Ak (hk b' (AJ hc) (by have:=h3 b' off e J;omega))).trans hc⟩
 .obtain⟨v,h1,h2⟩:=h.loc;exact⟨v,(Ak hg).trans h1,BQ h2 (hrow _)⟩
 .obtain⟨v,h1,h2⟩:=h.acc;exact⟨v,(Ak hg).trans h1,BQ h2 (hrow _)⟩
 .obtain⟨v,h1,h2⟩:=h.Bi;exact⟨v,(Ak hg).trans h1,BQ h2 (hrow _)⟩
structure AAq (w W:tyW)(z:tyV)(tz:TypeId)(A1:tyA)(n c:tyN):Prop where
 up:Up w W
 sz:W.heap.size=w.heap.size+4
 b0:BR W w #[z] tz
 b1:BR W (w+1) #[false,sN,sN,sN] 161
 b2:BR W (w+1+1) #[O 1,AR A1 n c,sN,sN,sN] 196
 b3:BR W (w+1+1+1) #[pT (w+1+1)] 164
theorem begun(w:tyW)(z:tyV)(tz:TypeId)(A1:tyA)(n c:tyN):
  AAq w ((((w.alloc (Y #[z] tz)).alloc (Y #[false,sN,sN,sN] 161)).alloc
   (Y #[O 1,AR A1 n c,sN,sN,sN] 196)).alloc (Y #[pT (w+1+1)] 164)) z tz A1 n c where
 up:=((((AV w).alloc _).alloc _).alloc _).alloc _
 sz:=Az
 b0:=by
  rw[JP _ _ _ (by simp;omega),JP _ _ _ (by simp;omega),JP _ _ _ Az];exact Ah w _
 b1:=by
  rw[JP _ _ _ Az,JP _ _ _ Az];have:=Ah (w.alloc (Y #[z] tz)) (Y #[false,sN,sN,sN] 161);rw[Cy]at this;exact this
 b2:=by
  rw[JP _ _ _ Az];have:=Ah ((w.alloc (Y #[z] tz)).alloc (Y #[false,sN,sN,sN] 161)) (Y #[O 1,AR A1 n c,sN,sN,sN] 196);rw[Cy,Cy]at this;exact this
 b3:=by
  have:=Ah (((w.alloc (Y #[z] tz)).alloc (Y #[false,sN,sN,sN] 161)).alloc (Y #[O 1,AR A1 n c,sN,sN,sN] 196)) (Y #[pT (w+1+1)] 164);rw[Cy,Cy,Cy]at this;exact this
structure Ended (w W5:tyW)(v:tyV)(t:TypeId)(s':TS):Prop where
 tp:AX W5 (w.heap.size+1+1) (w.heap.size+4) s'
 go:BR W5 w #[v] t
 ou:BR W5 (w+1) #[false,sN,sN,sN] 161
 pt:V W5 (w+1+1+1) 0 (pT (w+1+1))
 be:Below w.heap.size w W5
 sz:w.heap.size+3<W5.heap.size
end
end Go.Proofs.YtpodgcpkccpnfaaGreat
