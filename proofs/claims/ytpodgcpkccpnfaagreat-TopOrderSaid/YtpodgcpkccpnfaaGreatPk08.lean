import Derived.Test.YtpodgcpkccpnfaaGreatPk05
set_option linter.unusedVariables false
set_option linter.unusedSimpArgs false
set_option maxRecDepth 20000
set_option maxHeartbeats 40000000
namespace Go.Proofs.YtpodgcpkccpnfaaGreat
variable{c:CS}{B h k:Nat}{ms:Nat->Value}{m:Value}{w w' wr:World}
section
open Go.RowKit
theorem Cc(n lo hi:tyI)(h1:lo<=n)(h2:n<=hi)(w:tyW):Calls Tryz.prog 70 #[n,lo,hi] w λe w'=>e=BA true/\w'=w:=by
 go_enter Tryz.func70,Tryz.ntmps70
 go_wp2
 go_ret;exact⟨rfl,rfl⟩
def OZ (c:CD):Prop:=(1<=c.1/\c.1<=17)/\(0<=c.2.1/\c.2.1<=7)/\0<=c.2.2/\c.2.2<=1048576
theorem YJ(x0 x1 x2:tyI)(h:OZ (x0,x1,x2))(w:tyW):Calls Tryz.prog 71 #[.agg #[x0,x1,x2]] w λe w'=>e=BA true/\Up w w':=by
 obtain⟨⟨a1,a2⟩,⟨a3,a4⟩,a5,a6⟩:=h;dsimp only at a1 a2 a3 a4 a5 a6;have W0:=I (λw=>Cc x0 1 17 a1 a2 w);have W1:=I (λw=>Cc x1 0 7 a3 a4 w);have W2:=I (λw=>Cc x2 0 1048576 a5 a6 w);have hb:=Ah w (Y #[x0,x1,x2] 65);have c0:=cI hb 0;have c1:=cI hb 1;have c2:=cI hb 2;have HU:=I ((AV w).alloc (Y #[x0,x1,x2] 65));clear hb a1 a2 a3 a4 a5 a6;go_enter Tryz.func71,Tryz.ntmps71;go_wp2_with fail;refine(W0.out _).mono ?_;rintro e w1 ⟨rfl,rfl⟩;go_wp2_with fail;refine(W1.out _).mono ?_;rintro e w1 ⟨rfl,rfl⟩;go_wp2_with fail;refine(W2.out _).mono ?_;rintro e w1 ⟨rfl,rfl⟩
 go_wp2
 go_ret;exact⟨rfl,HU⟩
def DT (n:tyN)(p:BL):Prop:=(0<=p.thread/\p.thread<=n-1)/\(p.halt=true/\p.times=0\/p.halt=false/\1<=p.times/\p.times<=255)
theorem Xw(n:tyN)(hn:n<=8)(p:BL)(h:DT n p)(w:tyW):Calls Tryz.prog 72 #[.agg #[p.thread,p.times,.bool p.halt],n] w λe w'=>e=BA true/\Up w w':=by
 obtain⟨t,k,hb⟩:=p;obtain⟨⟨a1,a2⟩,a3⟩:=h;dsimp only at a1 a2 a3|-;have W0:=I (λw=>Cc t 0 ((n:tyI)-1) a1 a2 w);have hw:wrap64 ((n:tyI)-1)=(n:tyI)-1:=IntWalk.wrap64_in _ J;have hbb:=Ah w (Y #[t,k,hb] 68);have c0:=cI hbb 0;have c1:=cI hbb 1;have c2:=cI hbb 2;have HU:=I ((AV w).alloc (Y #[t,k,hb] 68));clear hbb a1 a2;rcases a3 with⟨rfl,rfl⟩|⟨rfl,a4,a5⟩
 .go_enter Tryz.func72,Tryz.ntmps72;go_wp2_with fail;refine(W0.out _).mono ?_;rintro e w1 ⟨rfl,rfl⟩
  go_wp2
  go_ret;exact⟨rfl,HU⟩
 .have W1:=I (λw=>Cc k 1 255 a4 a5 w);go_enter Tryz.func72,Tryz.ntmps72;go_wp2_with fail;refine(W0.out _).mono ?_;rintro e w1 ⟨rfl,rfl⟩;go_wp2_with fail;refine(W1.out _).mono ?_;rintro e w1 ⟨rfl,rfl⟩
  go_wp2
  go_ret;exact⟨rfl,HU⟩
def Hv (t:Hk):Prop:=((1<=t.kind/\t.kind<=8)/\(0<=t.AW/\t.AW<=8)/\(0<=t.mode/\t.mode<=3)/\0<=t.room/\t.room<=1048576)/\(0<=t.arg/\t.arg<=8)/\(-1<=t.writer/\t.writer<=7)/\(-1<=t.reader/\t.reader<=7)/\0<=t.top/\t.top<=1048576
theorem Ue(t:Hk)(h:Hv t)(w:tyW):Calls Tryz.prog 73 #[.agg #[t.kind,t.AW,t.mode,t.room,t.arg,t.writer,t.reader,t.top]] w λe w'=>e=BA true/\Up w w':=by
 obtain⟨x0,x1,x2,x3,x4,x5,x6,x7⟩:=t;obtain⟨⟨⟨a0,b0⟩,⟨a1,b1⟩,⟨a2,b2⟩,a3,b3⟩,⟨a4,b4⟩,⟨a5,b5⟩,⟨a6,b6⟩,a7,b7⟩:=h;dsimp only at a0 b0 a1 b1 a2 b2 a3 b3 a4 b4 a5 b5 a6 b6 a7 b7|-;have W0:=I (λw=>Cc x0 1 8 a0 b0 w);have W1:=I (λw=>Cc x1 0 8 a1 b1 w);have W2:=I (λw=>Cc x2 0 3 a2 b2 w);have W3:=I (λw=>Cc x3 0 1048576 a3 b3 w);have W4:=I (λw=>Cc x4 0 8 a4 b4 w);have W5:=I (λw=>Cc x5 (-1) 7 a5 b5 w);have W6:=I (λw=>Cc x6 (-1) 7 a6 b6 w);have W7:=I (λw=>Cc x7 0 1048576 a7 b7 w);have hb:=Ah w (Y #[x0,x1,x2,x3,x4,x5,x6,x7] 46);have c0:=cI hb 0;have c1:=cI hb 1;have c2:=cI hb 2;have c3:=cI hb 3;have c4:=cI hb 4;have c5:=cI hb 5;have c6:=cI hb 6;have c7:=cI hb 7;have HU:=I ((AV w).alloc (Y #[x0,x1,x2,x3,x4,x5,x6,x7] 46));clear hb a0 b0 a1 b1 a2 b2 a3 b3 a4 b4 a5 b5 a6 b6 a7 b7;go_enter Tryz.func73,Tryz.ntmps73;go_wp2_with fail;refine(W0.out _).mono ?_;rintro e w1 ⟨rfl,rfl⟩;go_wp2_with fail;refine(W1.out _).mono ?_;rintro e w1 ⟨rfl,rfl⟩;go_wp2_with fail;refine(W2.out _).mono ?_;rintro e w1 ⟨rfl,rfl⟩;go_wp2_with fail;refine(W3.out _).mono ?_;rintro e w1 ⟨rfl,rfl⟩;go_wp2_with fail;refine(W4.out _).mono ?_;rintro e w1 ⟨rfl,rfl⟩;go_wp2_with fail;refine(W5.out _).mono ?_;rintro e w1 ⟨rfl,rfl⟩;go_wp2_with fail;refine(W6.out _).mono ?_;rintro e w1 ⟨rfl,rfl⟩;go_wp2_with fail;refine(W7.out _).mono ?_;rintro e w1 ⟨rfl,rfl⟩
 go_wp2
 go_ret;exact⟨rfl,HU⟩
structure SD where
 many:Int
 kind:Int
 top:Int
def Fo:SD:=⟨0,0,0⟩
def Gd (s:SD):Bool:=decide (0<=s.many)&&(decide (1<=s.kind)&&(decide (s.kind<=3)&&(decide (0<=s.top)&&decide (s.top<=1099511627776))))
theorem fu(s:SD)(w:tyW):Calls Tryz.prog 108 #[.agg #[s.many,s.kind,s.top]] w λe w'=>e=BA (.bool (Gd s))/\Up w w':=by
 obtain⟨M,K,T⟩:=s;have hb:=Ah w (Y #[M,K,T] 152);have x0:V (w.alloc (Y #[M,K,T] 152)) w 0 M:=Ar _ _ 0 _ _ _ hb;have x1:V (w.alloc (Y #[M,K,T] 152)) w 1 K:=Ar _ _ 1 _ _ _ hb;have x2:V (w.alloc (Y #[M,K,T] 152)) w 2 T:=Ar _ _ 2 _ _ _ hb;have HU:=I ((AV w).alloc (Y #[M,K,T] 152));have HF:Hid (Gd ⟨M,K,T⟩=(decide (0<=M)&&(decide (1<=K)&&(decide (K<=3)&&(decide (0<=T)&&decide (T<=1099511627776)))))):=I rfl;clear hb;cases h0:decide (0<=M)<;>cases h1:decide (1<=K)<;>cases h2:decide (K<=3)<;>cases h3:decide (0<=T)<;>cases h4:decide (T<=1099511627776)
 all_goals
  rw[h0,h1,h2,h3,h4]at HF;go_enter Tryz.func108,Tryz.ntmps108
  go_wp2
  go_ret;exact⟨by rw[HF];rfl,HU⟩
def Dx (w:tyW)(A:tyA)(l:List SD):Prop:= ∀k,k<l.length->∃b off,A=some ⟨b,off,none⟩/\
 V w b (off+k*3) (O (l.getD k Fo).many)/\V w b (off+k*3+1) (O (l.getD k Fo).kind)/\V w b (off+k*3+2) (O (l.getD k Fo).top)
theorem Dx.up{A:tyA}{l:List SD}(h:Dx w A l)(u:Up w w'):Dx w' A l:=λk hk=>by
 obtain⟨b,off,e,h0,h1,h2⟩:=h k hk;exact⟨b,off,e,(u.cell (AJ h0)).trans h0,(u.cell (AJ h1)).trans h1,(u.cell (AJ h2)).trans h2⟩
def Jg (a b:tyI):Int:=if b<a then b else a
def Cl (l:List SD):Nat->Int
 |0=>0
 |k+1=>Jg (Cl l k+Jg (l.getD k Fo).many 32769) 32769
def F5 (l:List SD)(k:tyN):Bool:=(List.range k).all λi=>Gd (l.getD i Fo)
def countP (l:List SD):Int×Int:=if F5 l l.length then(if 32768<Cl l l.length then(0,5)else(Cl l l.length,0))else(0,1)
theorem NQ{l:List SD}:∀{k},F5 l k=true->0<=Cl l k/\Cl l k<=32769
 |0,_=>by unfold Cl;omega
 |k+1,h=>by
  have h1:F5 l k=true/\Gd (l.getD k Fo)=true:=by
   unfold F5 at h|-;rw[MQ,kV,Fh]at h;exact⟨h.1,by simpa using h.2⟩
  have ih:=NQ h1.1
  have h2:0<=(l.getD k Fo).many:=by
   have:=h1.2;unfold Gd at this;rw[Fh]at this;exact Il this.1
  unfold Cl Jg;split<;>split<;>omega
theorem PD{l:List SD}:F5 l (k+1)=(F5 l k&&Gd (l.getD k Fo)):=by
 unfold F5;rw[MQ,kV];simp
theorem qf{l:List SD}{n:tyN}(hk:k<n)(h:Gd (l.getD k Fo)=false):F5 l n=false:=by
 unfold F5;rw[List.all_eq_false];exact⟨k,Dz.2 hk,by rw[h];simp⟩
theorem fp(l:List SD)(A:tyA)(c:tyN)(w:tyW)(hl:l.length<=9223372036854775807)(hr:Dx w A l):
  Calls Tryz.prog 79 #[AR A l.length c] w λe w'=>e=BA (.tuple #[O (countP l).1,O (countP l).2])/\Up w w':=by
 have HR:=I hr;have ot:(l.length:tyI)<=9223372036854775807:=J;have HA0:Hid (F5 l 0=true):=I rfl;have HCP:Hid (countP l=if F5 l l.length then(if 32768<Cl l l.length then(0,5)else(Cl l l.length,0))else(0,1)):=I rfl;have HST:Hid (∀k,Cl l (k+1)=Jg (Cl l k+Jg (l.getD k Fo).many 32769) 32769):=I (λ_=>rfl);have jQ:=I (λk (h:F5 l k=true)=>NQ h);clear hr hl;go_enter Tryz.func79,Tryz.ntmps79;go_wp2_with fail
 go_loopw[4,9] (λm x wr=> ∃k:Nat,k<=l.length/\x=O k/\m=O (Cl l k)/\Hid (F5 l k=true)/\Hid (Up w wr)) (λ_ x _=>l.length-(intOf x).toNat)
 case atStart=>exact⟨0,J,rfl,rfl,HA0,I (AV _)⟩
 case round=>
  obtain⟨k,hk,rfl,rfl,HA,HV⟩:=hrel;have HC:=I (jQ k HA);obtain⟨hc0,hc1⟩:=HC.out;by_cases hlt:k<l.length
  .have hki:(k:tyI)<l.length:=J;have hk0:(0:tyI)<=k:=J;have Ea:=I hlt;obtain⟨b,off,rfl,x0,x1,x2⟩:=HR.up HV k hlt;have HFS:=I (λW=>fu (l.getD k Fo) W);have HS:=I (HST k);have HAS:Hid (F5 l (k+1)=(F5 l k&&Gd (l.getD k Fo))):=I PD;have jR:=I (λ(h:Gd (l.getD k Fo)=false)=>qf (n:=l.length) hlt h);have HIK:=I (λ(h:F5 l (k+1)=true)=>jQ (k+1) h);generalize hfs:Gd (l.getD k Fo)=fs at*;have HFE:=I hfs;clear hfs;generalize l.getD k Fo=s at*;obtain⟨M,K,T⟩:=s;dsimp only at x0 x1 x2 HFS HS;have HB:=I (Ah wr (Y #[M,K,T] 152));have y0:V (wr.alloc (Y #[M,K,T] 152)) wr 0 M:=Ar _ _ 0 _ _ _ HB;have y1:V (wr.alloc (Y #[M,K,T] 152)) wr 1 K:=Ar _ _ 1 _ _ _ HB;have y2:V (wr.alloc (Y #[M,K,T] 152)) wr 2 T:=Ar _ _ 2 _ _ _ HB;have IK:=I ((AV wr).alloc (Y #[M,K,T] 152));clear hlt hk;go_wp2_with fail;refine(HFS _).mono ?_;rintro e w2 ⟨rfl,hu2⟩;have Cm:=I (HV.trans (IK.trans hu2));have hb2:=(hu2.block wr.heap.size Az).trans HB;have z0:V w2 wr 0 M:=Ar _ _ 0 _ _ _ hb2;clear hu2 hb2 y0 y1 y2 x0 x1 x2;cases fs
   .have HNA:=I (jR (by first|rfl|trivial))
    go_wp2
    go_ret2;exact⟨by rw[HCP,HNA];rfl,Cm⟩
   .have hm0:0<=M:=by
     have:=HFE.out;unfold Gd at this;rw[Fh]at this;exact Il this.1
    have HA2:Hid (F5 l (k+1)=true):=I (by rw[HAS,HA];rfl)
    go_wp2
    go_roundw
    case rel=>exact⟨k+1,Ea,by go_num,by rw[HS];rfl,HA2,Cm⟩
    case measure=>simp[intOf];omega
  .obtain rfl:k=l.length:=J;clear hlt hk;by_cases hbig:32768<Cl l l.length
   .have hE:Hid (countP l=(0,5)):=I (by rw[HCP,AK HA.out,AK hbig])
    go_wp2
    go_ret2;exact⟨by rw[hE.out];rfl,HV⟩
   .have hE:Hid (countP l=(Cl l l.length,0)):=I (by rw[HCP,AK HA.out,AI hbig]);have hd:decide (32768<Cl l l.length)=false:=DF hbig
    go_wp2
    go_ret2;exact⟨by rw[hE.out];rfl,HV⟩
def FT (l:List SD):Nat->Int
 |0=>0
 |k+1=>if 0<(l.getD k Fo).many then FT l k+(l.getD k Fo).many else FT l k
def DM (l:List SD):Nat->List (Int×SD)
 |0=>[]
 |k+1=>if 0<(l.getD k Fo).many then DM l k++[(FT l (k+1),l.getD k Fo)]else DM l k
def TI (r:Int×SD):List Value:=[.int .i64 r.1,.int .i64 r.2.many,.int .i64 r.2.kind,.int .i64 r.2.top]
def F6 (l:List (Int×SD)):List Value:=l.flatMap TI
theorem Sr(l m:List (Int×SD)):F6 (l++m)=F6 l++F6 m:=by unfold F6;rw[Y8]
theorem OW(l:List SD):∀k,(DM l k).length<=k
 |0=>A9 _
 |k+1=>by
  have:=OW l k;unfold DM;split
  .rw[Gx];exact Nat.succ_le_succ this
  .omega
theorem VW{l:List SD}:∀{k},F5 l k=true->Cl l k<=32768->FT l k=Cl l k
 |0,_,_=>rfl
 |k+1,h,hc=>by
  rw[PD,Fh]at h;have hin:=NQ h.1
  have h2:0<=(l.getD k Fo).many:=by
   have:=h.2;unfold Gd at this;rw[Fh]at this;exact Il this.1
  unfold Cl Jg at hc|-;have hk:Cl l k<=32768:=by split at hc<;>split at hc<;>omega
  have ih:=VW h.1 hk;unfold FT;split<;>split<;>split<;>(try split at hc)<;>(try split at hc)<;>omega
open Go.RowKit
def NJ (l:List SD)(n:tyI):Nat->Option SD
 |0=>none
 |k+1=>(NJ l n k).or (if 0<(l.getD k Fo).many/\n<FT l (k+1)then some (l.getD k Fo)else none)
def Gs (l:List SD)(n:tyI):CS:=match NJ l n l.length with|some s=>CS.new s.kind s.top|none=>CS.new 0 0
theorem UN(l:List SD)(n:tyI):∀k,((DM l k).find? (λr=>decide (n<r.1))).map (·.2)=NJ l n k
 |0=>rfl
 |k+1=>by
  have ih:=UN l n k;unfold DM NJ;by_cases hm:0<(l.getD k Fo).many
  .rw[AK hm,List.find?_append];cases hf:(DM l k).find? (λr=>decide (n<r.1))with
   |some x=>rw[hf]at ih;rw[<-ih];rfl
   |none=>
    rw[hf]at ih;rw[<-ih];by_cases hn:n<FT l (k+1)
    .rw[AK ⟨hm,hn⟩];simp[hn]
    .rw[AI (λh=>hn h.2)];simp[hn]
  .rw[AI hm,AI (λh=>hm h.1),ih];simp
theorem Rd{α:Type}(p:α->Bool):∀rs:List α,rs.Pairwise (λa b=>p a=true->p b=true)->rs[rs.countP (λr=> !p r)]?=rs.find? p
 |[],_=>rfl
 |a::rs,h=>by
  rw[List.pairwise_cons]at h;cases ha:p a
  .rw[List.countP_cons_of_pos (by simp[ha]),List.find?_cons,ha,Kk];exact Rd p rs h.2
  .have h0:rs.countP (λr=> !p r)=0:=by
    rw[List.countP_eq_zero];intro b hb;simp[h.1 b hb ha]
   rw[List.countP_cons_of_neg (by simp[ha]),h0,List.find?_cons,ha];rfl
theorem OX(l:List SD):∀k,(∀r∈DM l k,r.1<=FT l k)/\(DM l k).Pairwise (λa b=>a.1<=b.1)
 |0=>⟨λr h=>(by cases h),List.Pairwise.nil⟩
 |k+1=>by
  obtain⟨h1,h2⟩:=OX l k;unfold DM;by_cases hm:0<(l.getD k Fo).many
  .have he:FT l (k+1)=FT l k+(l.getD k Fo).many:=by
    show(if 0<(l.getD k Fo).many then _ else _)=_;rw[AK hm]
   rw[AK hm];refine⟨λr hr=>?_,?_⟩
   .rcases Cs.1 hr with hr|hr
    .have:=h1 r hr;omega
    .rw[Bq]at hr;rw[hr];exact In _
   .rw[List.pairwise_append];refine⟨h2,List.pairwise_singleton _ _,λa ha b hb=>?_⟩;rw[Bq]at hb;have:=h1 a ha;rw[hb];show a.1<=FT l (k+1);omega
  .have he:FT l (k+1)=FT l k:=by
    show(if 0<(l.getD k Fo).many then _ else _)=_;rw[AI hm]
   rw[AI hm,he];exact⟨h1,h2⟩
theorem TN(l:List SD)(n:tyI)(h0:0<=n):∀k,n<FT l k->(NJ l n k).isSome=true
 |0,h=>by unfold FT at h;omega
 |k+1,h=>by
  unfold NJ;by_cases hk:n<FT l k
  .have:=TN l n h0 k hk;cases hp:NJ l n k with
   |none=>rw[hp]at this;cases this
   |some x=>rfl
  .have hm:0<(l.getD k Fo).many:=by
    unfold FT at h;split at h
    .assumption
    .omega
   rw[AK ⟨hm,h⟩];cases NJ l n k<;>rfl
theorem rI(l:List SD)(n:tyI)(h0:0<=n)(k:tyN)(h:n<FT l k):∃r s,(DM l k)[(DM l k).countP (λr=> !decide (n<r.1))]?=some r/\NJ l n k=some s/\r.2=s:=by
 rw[Rd (λr=>decide (n<r.1)) _ ((OX l k).2.imp λ{a b} hab ha=>by have:=Il ha;exact Fi J)];have h1:=UN l n k;have h2:=TN l n h0 k h;cases hf:(DM l k).find? (λr=>decide (n<r.1))with
 |none=>rw[hf]at h1;rw[<-h1]at h2;cases h2
 |some r=>rw[hf]at h1;exact⟨r,r.2,rfl,h1.symm,rfl⟩
theorem iH(l:List (Int×SD)):∀k r,l[k]?=some r->∀j,j<4->(F6 l)[k*4+j]?=(TI r)[j]?:=by
 induction l with
 |nil=>intro k r hk;cases hk
 |cons a l ih=>
  intro k r hk j hj;have e:F6 (a::l)=TI a++F6 l:=rfl;have e4:(TI a).length=4:=rfl;rw[e];cases k with
  |zero=>
   rw[RR,Dw,IC J];rw[Gc,Dt]at hk;rw[hk]
  |succ k=>
   rw[Gb J,e4,show(k+1)*4+j-4=k*4+j by omega];exact ih k r hk j hj
theorem JS(c:CS):∀k,(BW c k).may.length<=k+1
 |0=>by unfold BW;split<;>simp
 |k+1=>by
  have:=JS c k;unfold BW;split
  .unfold aJ;split
   .simp;omega
   .simp;omega
  .omega
theorem Q7(c:CS)(h:c.kind≠2):∀k,(BW c k).may=[]
 |0=>by unfold BW;rw[AI h]
 |k+1=>by
  have:=Q7 c h k;unfold BW;split
  .unfold aJ;rw[AI h];exact this
  .exact this
theorem Mu(c:CS)(h:c.kind=2):∀k,0<(BW c k).may.length
 |0=>by unfold BW;rw[AK h];simp
 |k+1=>by
  have:=Mu c h k;unfold BW;split
  .unfold aJ;rw[AK h];simp
  .exact this
theorem U9(w:tyW)(R AF E:Array Value)(tr tv te:TypeId):Up w (((w.alloc (Y R tr)).alloc (Y AF tv)).alloc (Y E te))/\BR (((w.alloc (Y R tr)).alloc (Y AF tv)).alloc (Y E te)) w R tr/\
  BR (((w.alloc (Y R tr)).alloc (Y AF tv)).alloc (Y E te)) (w+1) AF tv/\BR (((w.alloc (Y R tr)).alloc (Y AF tv)).alloc (Y E te)) (w+1+1) E te/\True:=by
 have u1:Up w (w.alloc (Y R tr)):=(AV w).alloc _;have u2:Up (w.alloc (Y R tr)) ((w.alloc (Y R tr)).alloc (Y AF tv)):=(AV _).alloc _;have u3:Up ((w.alloc (Y R tr)).alloc (Y AF tv)) (((w.alloc (Y R tr)).alloc (Y AF tv)).alloc (Y E te)):=(AV _).alloc _;have h1:=Ah w (Y R tr);have h2:=Ah (w.alloc (Y R tr)) (Y AF tv);have h3:=Ah ((w.alloc (Y R tr)).alloc (Y AF tv)) (Y E te);have s1:(w.alloc (Y R tr)).heap.size=w.heap.size+1:=Az;have s2:((w.alloc (Y R tr)).alloc (Y AF tv)).heap.size=w.heap.size+1+1:=Az;rw[s1]at h2;rw[s2]at h3;exact⟨(u1.trans u2).trans u3,((u2.trans u3).block _ J).trans h1,(u3.block _ J).trans h2,h3,trivial⟩
theorem Z0(w:tyW)(R AF:Array Value)(tr tv:TypeId):Up w ((w.alloc (Y R tr)).alloc (Y AF tv))/\BR ((w.alloc (Y R tr)).alloc (Y AF tv)) w R tr/\
  BR ((w.alloc (Y R tr)).alloc (Y AF tv)) (w+1) AF tv:=by
 have u1:Up w (w.alloc (Y R tr)):=(AV w).alloc _;have u2:Up (w.alloc (Y R tr)) ((w.alloc (Y R tr)).alloc (Y AF tv)):=(AV _).alloc _;have h1:=Ah w (Y R tr);have h2:=Ah (w.alloc (Y R tr)) (Y AF tv);have s1:(w.alloc (Y R tr)).heap.size=w.heap.size+1:=Az;rw[s1]at h2;exact⟨u1.trans u2,(u2.block _ J).trans h1,h2⟩
def VD (w:tyW)(b:tyN)(v0 v1 v2 v3 v4:tyV):World:=((((w.setCell (aD b 0) v0).setCell (aD b 1) v1).setCell (aD b 2) v2).setCell (aD b 3) v3).setCell (aD b 4) v4
theorem iB{b:tyN}{t:TypeId}{x0 x1 x2 x3 x4:tyV}(v0 v1 v2 v3 v4:tyV)(h:BR w b #[x0,x1,x2,x3,x4] t):BR (VD w b v0 v1 v2 v3 v4) b #[v0,v1,v2,v3,v4] t:=by
 unfold VD;rw[VZ _ _ _ _ _ _ (VZ _ _ _ _ _ _ (VZ _ _ _ _ _ _ (VZ _ _ _ _ _ _ (VZ _ _ _ _ _ _ h))))];rfl
theorem ZN(w:tyW)(b k:tyN)(v0 v1 v2 v3 v4:tyV)(h:k≠b):hSM (VD w b v0 v1 v2 v3 v4) w k:=by
 unfold VD;rw[BF _ _ _ _ h,BF _ _ _ _ h,BF _ _ _ _ h,BF _ _ _ _ h,BF _ _ _ _ h]
theorem ZJ(w:tyW)(b N:tyN)(v0 v1 v2 v3 v4:tyV)(h:N<=b):Below N w (VD w b v0 v1 v2 v3 v4):=
 (((((Hx N w).setCell (p:=aD b 0) h _).setCell (p:=aD b 1) h _).setCell (p:=aD b 2) h _).setCell (p:=aD b 3) h _).setCell (p:=aD b 4) h _
structure Hw (w wr:tyW)(c:CS)(k:tyN)(m:tyV):Prop where
 up:Up w wr
 a:tM wr (w.heap.size+1) 0 (BW c k) m
 fz:∀j,wr.frozen? (aD (w+1) j)=false
 may:D0 wr w.heap.size m (BW c k).may
 ap1:m.ownBlock≠some (w.heap.size+1)
 ap0:m.ownBlock≠some w.heap.size
 res:BR wr w #[false,false,(),false,sN] 191
 nil:c.kind≠2->m=sN
theorem XT{m2:tyV}(h:Hw w wr c 8 m)(hm:D0 wr w.heap.size m2 (BW c 8).may)(ho:m2.ownBlock=m.ownBlock)(v0 v1 v2 v3:tyV):
  BR (VD (wr.setCell (aD (w.heap.size+1) 4) m2) w.heap.size v0 v1 v2 v3 m2) w #[v0,v1,v2,v3,m2] 191/\
   Up w (VD (wr.setCell (aD (w+1) 4) m2) w.heap.size v0 v1 v2 v3 m2)/\D0 (VD (wr.setCell (aD (w+1) 4) m2) w.heap.size v0 v1 v2 v3 m2) w.heap.size m2 (BW c 8).may:=by
 have h0:hSM (wr.setCell (aD (w.heap.size+1) 4) m2) wr w:=BF wr ⟨w.heap.size+1,4,none⟩ _ _ (show w.heap.size≠w.heap.size+1 by omega);refine⟨iB _ _ _ _ _ (h0.trans h.res),DL (DL h.up ((Hx w.heap.size wr).setCell (p:=aD (w+1) 4) (show w.heap.size<=w.heap.size+1 by omega) m2)) (ZJ _ _ _ _ _ _ _ _ (A9 _)),hm.same (by simp[VD]) λk hk=>?_⟩;rw[ho]at hk;have n1:k≠w.heap.size+1:=λe=>h.ap1 (by rw[hk,e])
 have n0:k≠w.heap.size:=λe=>h.ap0 (by rw[hk,e])
 exact(ZN _ _ _ _ _ _ _ _ n0).trans (BF wr ⟨w.heap.size+1,4,none⟩ _ k n1)
theorem Hw.over{m':tyV}(h:Hw w wr c k m)(hon:(c.B1 k).on=true)(hwr:(c.B1 k).wr=true)(hp:KB wr w' (w.heap.size+1) 0 m m')
  (hm:D0 w' w.heap.size m' (if c.kind=2 then(BW c k).may++[(c.B1 k).val]else(BW c k).may)) (hn:c.kind≠2->m'=m):Hw w w' c (k+1) m':=by
 have e:BW c (k+1)=aJ c.kind (c.B1 k).val (BW c k):=by
  show(if _ then _ else _)=_;rw[AK ⟨hon,hwr⟩]
 have hg:=h.may.ge;have hs:w.heap.size+1<wr.heap.size:=AJ h.a.1
 have hap:∀b,b<wr.heap.size->m.ownBlock≠some b->m'.ownBlock≠some b:=λb hb hne=>by
  rcases hp.ob with h1|h1
  .rw[h1];exact hne
  .intro e;have:=h1 b e;omega
 have hbb:∀b,b<w.heap.size->hSM w' wr b:=λb hb=>hp.block b (by have:=h.up.size;omega) J (λe=>by have:=hg b e;omega)
 have hbel:Below w.heap.size wr w':=⟨hp.os,hp.tape,hp.output,hp.size,hbb⟩;obtain⟨a0,a1,a2,a3,a4⟩:=h.a;refine⟨DL h.up hbel,?_,λj=>(hp.fz j).trans (h.fz j),?_,hap _ J h.ap1,hap _ J h.ap0,?_,λhk=>by rw[hn hk];exact h.nil hk⟩
 .rw[e];refine⟨(hp.Iu 0 J J).trans a0,(hp.Iu 1 J J).trans a1,(hp.Iu 2 J J).trans a2,hp.c3,hp.c4⟩
 .rw[e];exact hm
 .refine(hp.block w.heap.size J J h.ap0).trans h.res
theorem Hw.skip(h:Hw w wr c k m)(hn:¬((c.B1 k).on=true/\(c.B1 k).wr=true)):Hw w wr c (k+1) m:=by
 have e:BW c (k+1)=BW c k:=by
  show(if _ then _ else _)=_;rw[AI hn]
 exact⟨h.up,by rw[e];exact h.a,h.fz,by rw[e];exact h.may,h.ap1,h.ap0,h.res,h.nil⟩
theorem iQ(h B:tyN)(c:CS)(ms:Nat->Value)(w:tyW)(H:CellIs w h B c ms):
  Calls Tryz.prog 173 #[pT h] w λe w'=> ∃m,e=BA (.agg #[.bool (BW c 8).on,.bool (BW c 8).wr,O (BW c 8).val,.bool (BW c 8).ov,m])/\Up w w'/\D0 w' w.heap.size m (BW c 8).may:=by
 have k0:=H.k0;have k2:=H.k2;have hlt:=H.lt;have HH:=I H;have Ea:=I hlt;by_cases hk:c.kind=2
 .have hb:=U9 w #[false,false,(),false,sN] #[true,false,(),false,BG (w+1+1) 0 1 1] #[c.value] 191 191 3
  have HST:=I (show Hw w (((w.alloc (Y #[false,false,(),false,sN] 191)).alloc (Y #[true,false,(),false,BG (w+1+1) 0 1 1] 191)).alloc (Y #[c.value] 3)) c 0 (BG (w+1+1) 0 1 1)from by
   obtain⟨h1,h2,h3,h4,h5⟩:=hb;have e0:BW c 0=⟨true,false,0,false,[c.value]⟩:=by unfold BW;rw[AK hk]
   refine⟨h1,?_,λj=>D4 _ _ j _ _ h3,?_,(λe=>by simp only[Value.ownBlock,Dt]at e;omega),(λe=>by simp only[Value.ownBlock,Dt]at e;omega),h2,λe=>absurd hk e⟩
   .rw[e0];exact⟨Ar _ _ 0 _ _ _ h3,Ar _ _ 1 _ _ _ h3,Ar _ _ 2 _ _ _ h3,Ar _ _ 3 _ _ _ h3,Ar _ _ 4 _ _ _ h3⟩
   .rw[e0]
    exact .inl ⟨rfl,.inr ⟨w.heap.size+1+1,1,#[c.value],rfl,J,h4,A9 _,AQ,rfl,rfl⟩⟩)
  rw[hk]at k0;clear hb H;go_enter Tryz.func173,Tryz.ntmps173;go_wp2_with fail;generalize((w.alloc (Y #[false,false,(),false,sN] 191)).alloc (Y #[true,false,(),false,BG (w+1+1) 0 1 1] 191)).alloc (Y #[c.value] 3)=W0 at*;have HK:=I hk;clear k0 k2 hlt
  go_loopw[18] (λt wr=> ∃(k:tyN) (m:tyV),k<=8/\t=O k/\Hid (Hw w wr c k m)) (λt _=>8-(intOf t).toNat)
  case atStart=>exact⟨0,_,J,rfl,HST⟩
  case round=>
   obtain⟨k,m,rR,rfl,Fw⟩:=hrel;have HU:=I Fw.up;by_cases hlt:k<8
   .obtain⟨g0,g1,g2,-⟩:=HH.acc k hlt;have e0:=(HU.cell (p:=aD h (3+k*5)) Ea).trans g0;have e1:=(HU.cell (p:=aD h (3+k*5+1)) Ea).trans g1;have e2:=(HU.cell (p:=aD h (3+k*5+2)) Ea).trans g2;have hki:(k:tyI)<8:=J;have ig:=I (Fw.skip);obtain⟨on,hon⟩:=gX ((c.B1 k).on);obtain⟨wrt,hwr⟩:=gX ((c.B1 k).wr);rw[hon]at e0;rw[hwr]at e1;have dZ:=I (And.intro hon hwr);clear hon hwr g0 g1 g2;cases on
    .clear e1 e2
     go_wp2
     go_roundw
     case rel=>exact⟨k+1,m,J,by go_num,I (ig (by rw[dZ.1];simp))⟩
     case measure=>simp[intOf];omega
    cases wrt
    .clear e2
     go_wp2
     go_roundw
     case rel=>exact⟨k+1,m,J,by go_num,I (ig (by rw[dZ.2];simp))⟩
     case measure=>simp[intOf];omega
    have my:=I (LW h (w.heap.size+1) 0 w.heap.size c.kind (c.B1 k).val m (BW c k).ov (BW c k).may wr ((HU.cell (p:=aD h 0) Ea).trans HH.k0) Fw.a.2.2.2.1 Fw.a.2.2.2.2 Fw.fz Fw.may HU.size (by have:=JS c k;omega) Fw.ap1);clear ig;go_wp2_with fail;refine my.mono ?_;rintro e w2 ⟨rfl,m',hp,hm,hn⟩;have HS2:=I (Fw.over dZ.1 dZ.2 hp hm hn);clear hp hm hn e0 e1 e2 my Fw HU
    go_wp2
    go_roundw
    case rel=>exact⟨k+1,m',J,by go_num,HS2⟩
    case measure=>simp[intOf];omega
   .obtain rfl:k=8:=J;clear hlt;obtain⟨a0,a1,a2,a3,a4⟩:=Fw.a;have hpos:=Mu c HK 8;have Yp:=JS c 8
    have G8:∃(g cap:tyN),m=BG g 0 (BW c 8).may.length cap/\(BW c 8).may.length<=cap/\w.heap.size<=g/\g<wr.heap.size/\(∀j u,(Aj (BW c 8).may)[j]?=some u->V wr g j u):=by
     rcases Fw.may with h1|⟨g,h1,h2,h3,h4⟩
     .rcases h1.2 with⟨_,hn⟩|⟨g,cap,cur,hv,hb,hh,h5,_⟩
      .omega
      .exact⟨g,cap,hv,h5,hb,(gE hh).1,λj u hu=>by
       have:=h1.cells (g:=g) (by rw[hv];rfl) j u hu;rw[JC,Dw]at this
       exact this⟩
     .exact⟨g,_,h1,A9 _,h2,h3,h4⟩
    obtain⟨g,cap,rfl,hcap,hg1,hg2,hrow⟩:=G8;generalize hR:BW c 8=R at*;have f4:=Fw.fz 4;have b0:=cI Fw.res 0;have b1:=cI Fw.res 1;have b2:=cI Fw.res 2;have b3:=cI Fw.res 3;have b4:=cI Fw.res 4;have AFU:∀j,wr.frozen? (aD w j)=false:=λj=>D4 _ _ j _ _ Fw.res
    have HE:=I (XT (m2:=BG g 0 R.may.length R.may.length) Fw (by rw[hR];exact .inr ⟨g,rfl,hg1,hg2,hrow⟩) rfl (.bool R.on) (.bool R.wr) R.val (.bool R.ov));rw[hR]at HE;clear hrow Fw hpos Yp HH;go_wp2_with fail;refine Gz (v:= .agg #[.bool R.on,.bool R.wr,R.val,.bool R.ov,BG g 0 R.may.length R.may.length]) ?_ rfl ?_;rotate_left
    .rw[hR];exact⟨_,rfl,HE.2.1,HE.2.2⟩
    exact GV rfl _ _ w.heap.size 191 _ _ _ rfl HE.1 Tryz.underlying191 rfl Ay
 .have hb:=Z0 w #[false,false,(),false,sN] #[true,false,(),false,sN] 191 191
  have HST:=I (show Hw w ((w.alloc (Y #[false,false,(),false,sN] 191)).alloc (Y #[true,false,(),false,sN] 191)) c 0 sN from by
   obtain⟨h1,h2,h3⟩:=hb;have e0:BW c 0=⟨true,false,0,false,[]⟩:=by unfold BW;rw[AI hk]
   refine⟨h1,?_,λj=>D4 _ _ j _ _ h3,?_,(by simp[Value.ownBlock]),(by simp[Value.ownBlock]),h2,λ_=>rfl⟩
   .rw[e0];exact⟨Ar _ _ 0 _ _ _ h3,Ar _ _ 1 _ _ _ h3,Ar _ _ 2 _ _ _ h3,Ar _ _ 3 _ _ _ h3,Ar _ _ 4 _ _ _ h3⟩
   .rw[e0]
    exact .inl ⟨rfl,.inl ⟨rfl,rfl⟩⟩)
  have hk2:(c.kind==2)=false:=by rw[Dy];exact hk
  obtain⟨kd,hkd⟩:=gX c.kind;rw[hkd]at k0 hk2;have HKD:=I hkd;clear hb H hkd;go_enter Tryz.func173,Tryz.ntmps173;go_wp2_with fail;generalize(w.alloc (Y #[false,false,(),false,sN] 191)).alloc (Y #[true,false,(),false,sN] 191)=W0 at*;have HK:=I hk;clear k0 k2 hlt hk2 hk
  go_loopw[18] (λt wr=> ∃(k:tyN) (m:tyV),k<=8/\t=O k/\Hid (Hw w wr c k m)) (λt _=>8-(intOf t).toNat)
  case atStart=>exact⟨0,_,J,rfl,HST⟩
  case round=>
   obtain⟨k,m,rR,rfl,Fw⟩:=hrel;have HU:=I Fw.up;by_cases hlt:k<8
   .obtain⟨g0,g1,g2,-⟩:=HH.acc k hlt;have e0:=(HU.cell (p:=aD h (3+k*5)) Ea).trans g0;have e1:=(HU.cell (p:=aD h (3+k*5+1)) Ea).trans g1;have e2:=(HU.cell (p:=aD h (3+k*5+2)) Ea).trans g2;have hki:(k:tyI)<8:=J;have ig:=I (Fw.skip);obtain⟨on,hon⟩:=gX ((c.B1 k).on);obtain⟨wrt,hwr⟩:=gX ((c.B1 k).wr);rw[hon]at e0;rw[hwr]at e1;have dZ:=I (And.intro hon hwr);clear hon hwr g0 g1 g2;cases on
    .clear e1 e2
     go_wp2
     go_roundw
     case rel=>exact⟨k+1,m,J,by go_num,I (ig (by rw[dZ.1];simp))⟩
     case measure=>simp[intOf];omega
    cases wrt
    .clear e2
     go_wp2
     go_roundw
     case rel=>exact⟨k+1,m,J,by go_num,I (ig (by rw[dZ.2];simp))⟩
     case measure=>simp[intOf];omega
    have my:=I (LW h (w.heap.size+1) 0 w.heap.size c.kind (c.B1 k).val m (BW c k).ov (BW c k).may wr ((HU.cell (p:=aD h 0) Ea).trans HH.k0) Fw.a.2.2.2.1 Fw.a.2.2.2.2 Fw.fz Fw.may HU.size (by have:=JS c k;omega) Fw.ap1);clear ig;go_wp2_with fail;refine my.mono ?_;rintro e w2 ⟨rfl,m',hp,hm,hn⟩;have HS2:=I (Fw.over dZ.1 dZ.2 hp hm hn);clear hp hm hn e0 e1 e2 my Fw HU
    go_wp2
    go_roundw
    case rel=>exact⟨k+1,m',J,by go_num,HS2⟩
    case measure=>simp[intOf];omega
   .obtain rfl:k=8:=J;clear hlt;obtain⟨a0,a1,a2,a3,a4⟩:=Fw.a;obtain rfl:=Fw.nil HK;have hnone:=Q7 c HK 8;generalize hR:BW c 8=R at*;have f4:=Fw.fz 4;have b0:=cI Fw.res 0;have b1:=cI Fw.res 1;have b2:=cI Fw.res 2;have b3:=cI Fw.res 3;have b4:=cI Fw.res 4;have AFU:∀j,wr.frozen? (aD w j)=false:=λj=>D4 _ _ j _ _ Fw.res
    have HE:=I (XT (m2:=sN) Fw Fw.may rfl (.bool R.on) (.bool R.wr) R.val (.bool R.ov));rw[hR]at HE;clear Fw hnone HH;go_wp2_with fail;refine Gz (v:= .agg #[.bool R.on,.bool R.wr,R.val,.bool R.ov,sN]) ?_ rfl ?_;rotate_left
    .rw[hR];exact⟨_,rfl,HE.2.1,HE.2.2⟩
    exact GV rfl _ _ w.heap.size 191 _ _ _ rfl HE.1 Tryz.underlying191 rfl Ay
def MB (w:tyW)(b o:tyN)(v0 v1 v2 v3 v4:tyV):World:=((((w.setCell (aD b o) v0).setCell (aD b (o+1)) v1).setCell (aD b (o+2)) v2).setCell (aD b (o+3)) v3).setCell (aD b (o+4)) v4
theorem JU(w:tyW)(b o k:tyN)(v0 v1 v2 v3 v4:tyV)(h:k≠b):hSM (MB w b o v0 v1 v2 v3 v4) w k:=by
 unfold MB;rw[BF _ _ _ _ h,BF _ _ _ _ h,BF _ _ _ _ h,BF _ _ _ _ h,BF _ _ _ _ h]
theorem N2(w:tyW)(b o:tyN)(v0 v1 v2 v3 v4:tyV):(MB w b o v0 v1 v2 v3 v4).heap.size=w.heap.size:=by simp[MB]
theorem GY(w:tyW)(b o j:tyN)(v0 v1 v2 v3 v4:tyV)(h:j<o\/o+4<j):(MB w b o v0 v1 v2 v3 v4).cell? (aD b j)=w.cell? (aD b j):=by
 unfold MB;rw[Ck _ _ _ _ (by simp<;>omega),Ck _ _ _ _ (by simp<;>omega),Ck _ _ _ _ (by simp<;>omega),Ck _ _ _ _ (by simp<;>omega),Ck _ _ _ _ (by simp<;>omega)]
theorem vC(w:tyW)(b o j:tyN)(v0 v1 v2 v3 v4:tyV):(MB w b o v0 v1 v2 v3 v4).frozen? (aD b j)=w.frozen? (aD b j):=by unfold MB;simp[go_sem]
theorem vK{b o:tyN}{x0 x1 x2 x3 x4:tyV}(v0 v1 v2 v3 v4:tyV)(h0:V w b o x0)(h1:V w b (o+1) x1)(h2:V w b (o+2) x2)(h3:V w b (o+3) x3)(h4:V w b (o+4) x4):
  V (MB w b o v0 v1 v2 v3 v4) b o v0/\V (MB w b o v0 v1 v2 v3 v4) b (o+1) v1/\V (MB w b o v0 v1 v2 v3 v4) b (o+2) v2/\V (MB w b o v0 v1 v2 v3 v4) b (o+3) v3/\V (MB w b o v0 v1 v2 v3 v4) b (o+4) v4:=by
 have Iu:∀(W:tyW) (i j:tyN) (y:tyV),j≠i->(W.setCell (aD b i) y).cell? (aD b j)=W.cell? (aD b j):=λW i j y hne=>Ck _ _ _ _ (by simp<;>omega)
 unfold MB;refine⟨?_,?_,?_,?_,?_⟩
 .rw[Iu _ _ _ _ J,Iu _ _ _ _ J,Iu _ _ _ _ J,Iu _ _ _ _ J];exact Ek _ _ _ h0
 .rw[Iu _ _ _ _ J,Iu _ _ _ _ J,Iu _ _ _ _ J];exact Ek _ _ _ ((Iu _ _ _ _ J).trans h1)
 .rw[Iu _ _ _ _ J,Iu _ _ _ _ J];exact Ek _ _ _ ((Iu _ _ _ _ J).trans ((Iu _ _ _ _ J).trans h2))
 .rw[Iu _ _ _ _ J];exact Ek _ _ _ ((Iu _ _ _ _ J).trans ((Iu _ _ _ _ J).trans ((Iu _ _ _ _ J).trans h3)))
 .exact Ek _ _ _ ((Iu _ _ _ _ J).trans ((Iu _ _ _ _ J).trans ((Iu _ _ _ _ J).trans ((Iu _ _ _ _ J).trans h4))))
def Gr (ms:Nat->Value)(t:tyN)(m:tyV):Nat->Value:=λi=>if i=t then m else ms i
theorem CellIs.store(H:CellIs w h B c ms)(t:tyN)(ht:t<8)(a:QA)(m:tyV)(hm:D0 w B m a.may)(hap:m.ownBlock≠some h)
  (ABA:∀j,j<8->j≠t->∀k,m.ownBlock=some k->(ms j).ownBlock≠some k):
  CellIs (MB w h (3+t*5) (.bool a.on) (.bool a.wr) a.val (.bool a.ov) m) h B (c.put t a) (Gr ms t m):=by
 obtain⟨x0,x1,x2,x3,x4⟩:=H.acc t ht;have hk:∀k,k≠h->hSM (MB w h (3+t*5) (.bool a.on) (.bool a.wr) a.val (.bool a.ov) m) w k:=λk hne=>JU _ _ _ _ _ _ _ _ _ hne
 refine⟨by rw[N2];exact H.sz,(GY _ _ _ _ _ _ _ _ _ J).trans H.k0,(GY _ _ _ _ _ _ _ _ _ J).trans H.k1,(GY _ _ _ _ _ _ _ _ _ J).trans H.k2,λi hi=>?_,λj=>(vC _ _ _ _ _ _ _ _ _).trans (H.fz j),λi hi=>?_,λi hi=>?_,λi j hi hj hij k hik=>?_⟩
 .by_cases e:i=t
  .subst e;have:=vK (.bool a.on) (.bool a.wr) a.val (.bool a.ov) m x0 x1 x2 x3 x4;simp only[CS.put,Gr,AK];exact this
  .obtain⟨y0,y1,y2,y3,y4⟩:=H.acc i hi;simp only[CS.put,Gr,AI e];have far:i*5+5<=t*5\/t*5+5<=i*5:=J;exact⟨(GY _ _ _ _ _ _ _ _ _ J).trans y0,(GY _ _ _ _ _ _ _ _ _ J).trans y1,(GY _ _ _ _ _ _ _ _ _ J).trans y2,(GY _ _ _ _ _ _ _ _ _ J).trans y3,(GY _ _ _ _ _ _ _ _ _ J).trans y4⟩
 .by_cases e:i=t
  .subst e;simp only[CS.put,Gr,AK];exact hm.same (by rw[N2];exact A9 _) λk hkk=>hk k (λe=>hap (by rw[hkk,e]))
  .simp only[CS.put,Gr,AI e];exact(H.own i hi).same (by rw[N2];exact A9 _) λk hkk=>hk k (λe=>H.apart i hi (by rw[hkk,e]))
 .unfold Gr;split
  .exact hap
  .exact H.apart i hi
 .unfold Gr at hik|-;split at hik
  .rw[AI J];exact ABA j hj J k hik
  .rename_i hit;split
   .intro e2;exact ABA i hi hit k e2 hik
   .exact H.two i j hi hj hij k hik
theorem CellIs.val(H:CellIs w h B c ms)(v:tyI):CellIs (w.setCell (aD h 2) v) h B {c with value:=v} ms:=by
 have hk:∀k,k≠h->hSM (w.setCell (aD h 2) v) w k:=λk hne=>BF w ⟨h,2,none⟩ _ k hne
 have Iu:∀j,j≠2->(w.setCell (aD h 2) v).cell? (aD h j)=w.cell? (aD h j):=λj hne=>Ck _ _ _ _ (by simp<;>omega)
 refine⟨by simpa using H.sz,(Iu _ J).trans H.k0,(Iu _ J).trans H.k1,Ek _ _ _ H.k2,λi hi=>?_,λj=>by simpa[go_sem]using H.fz j,λi hi=>(H.own i hi).same Az λk hkk=>hk k (λe=>H.apart i hi (by rw[hkk,e])),H.apart,H.two⟩;obtain⟨y0,y1,y2,y3,y4⟩:=H.acc i hi;exact⟨(Iu _ J).trans y0,(Iu _ J).trans y1,(Iu _ J).trans y2,(Iu _ J).trans y3,(Iu _ J).trans y4⟩
theorem CellIs.up(H:CellIs w h B c ms)(u:Up w w'):CellIs w' h B c ms:=by
 have hh:=u.block h H.lt;have cc:∀j,w'.cell? (aD h j)=w.cell? (aD h j):=λj=>CI hh
 refine⟨DB H.sz u.size,(cc _).trans H.k0,(cc _).trans H.k1,(cc _).trans H.k2,λi hi=>?_,λj=>(C4 hh).trans (H.fz j),λi hi=>(H.own i hi).same u.size λk hkk=>u.block k ((H.own i hi).ge k hkk).2,H.apart,H.two⟩;obtain⟨y0,y1,y2,y3,y4⟩:=H.acc i hi;exact⟨(cc _).trans y0,(cc _).trans y1,(cc _).trans y2,(cc _).trans y3,(cc _).trans y4⟩
theorem mh(d top:tyI)(h:0<=top/\top<=1099511627776:=by omega):0<=Di d top/\Di d top<=top:=by
 have e:BC top 0 1099511627776=top:=by unfold BC;rw[AI J,AI J]
 unfold Di;rw[e];have h1:=XZ d (show top+1≠0 by omega);have h2:=Yi d (show 0<top+1 by omega);omega
structure BX (w w':tyW)(h:tyN)(ms ms':Nat->Value):Prop where
 os:w'.os=w.os
 tape:w'.tape=w.tape
 output:w'.output=w.output
 size:w.heap.size<=w'.heap.size
 block:∀k,k<w.heap.size->k≠h->(∀i,i<8->(ms i).ownBlock≠some k)->hSM w' w k
 new:∀i,i<8->∀k,(ms' i).ownBlock=some k->(∃j,j<8/\(ms j).ownBlock=some k)\/w.heap.size<=k
theorem BX.refl(w:tyW)(h:tyN)(ms:Nat->Value):BX w w h ms ms:=⟨rfl,rfl,rfl,A9 _,λ_ _ _ _=>rfl,λi hi k hk=> .inl ⟨i,hi,hk⟩⟩
theorem BX.Bp(u:Up w w'):BX w w' h ms ms:=⟨u.os,u.tape,u.output,u.size,λk hk _ _=>u.block k hk,λi hi k hk=> .inl ⟨i,hi,hk⟩⟩
theorem Oi(w:tyW)(b o N:tyN)(v0 v1 v2 v3 v4:tyV)(h:N<=b):Below N w (MB w b o v0 v1 v2 v3 v4):=
 (((((Hx N w).setCell (p:=aD b o) h _).setCell (p:=aD b (o+1)) h _).setCell (p:=aD b (o+2)) h _).setCell (p:=aD b (o+3)) h _).setCell (p:=aD b (o+4)) h _
theorem BX.up{w1 w2:tyW}{ms':Nat->Value}(f:BX w w1 h ms ms')(u:Up w1 w2):BX w w2 h ms ms':=
 ⟨u.os.trans f.os,u.tape.trans f.tape,u.output.trans f.output,DB f.size u.size,λk hk hne hi=>(u.block k (B5 hk f.size)).trans (f.block k hk hne hi),f.new⟩
structure Do (c:CS)(N:tyN):Prop where
 pos:∀i,i<8->(c.B1 i).on=true->(c.B1 i).wr=false->c.kind=2->0<(c.B1 i).may.length
 few:∀i,i<8->(c.B1 i).may.length<=N
theorem qG(h B N:tyN)(c:CS)(ms:Nat->Value)(t d:tyI)(w:tyW)(H:CellIs w h B c ms)(hg:Do c N)(hN:N<=100000):
  Calls Tryz.prog 81 #[pT h,t,d] w λe w'=>e=BA (.tuple #[O (c.Bm t d).1,O (c.Bm t d).2.1])/\∃ms',CellIs w' h B (c.Bm t d).2.2 ms'/\BX w w' h ms ms':=by
 have HH:=I H;by_cases h1:t<0
 .have e0:c.Bm t d=(0,7,c):=by unfold CS.Bm;rw[AK (.inl h1)]
  rw[e0];go_enter Tryz.func81,Tryz.ntmps81
  go_wp2
  go_ret2;exact⟨rfl,ms,HH,BX.refl _ _ _⟩
 by_cases h2:8<=t
 .have e0:c.Bm t d=(0,7,c):=by unfold CS.Bm;rw[AK (.inr h2)]
  rw[e0];go_enter Tryz.func81,Tryz.ntmps81
  go_wp2
  go_ret2;exact⟨rfl,ms,HH,BX.refl _ _ _⟩
 obtain⟨tn,rfl⟩:∃tn:Nat,t=tn:=⟨t.toNat,J⟩;have htn:tn<8:=J;obtain⟨x0,x1,x2,x3,x4⟩:=H.acc tn htn;have hi1:¬(8:tyI)<=tn:=h2;have ht0:(0:tyI)<=tn:=J;have wJ:(tn:tyI)<8:=J;cases hon:(c.B1 tn).on
 .have e0:c.Bm tn d=(0,7,c):=by unfold CS.Bm;rw[AI J,Gl,AK hon]
  rw[e0];rw[hon]at x0;clear H hon x1 x2 x3 x4 e0;go_enter Tryz.func81,Tryz.ntmps81
  go_wp2
  go_ret2;exact⟨rfl,ms,HH,BX.refl _ _ _⟩
 obtain⟨Am,cm,hmv,hcm⟩:=(H.own tn htn).form;rw[hmv]at x4;obtain⟨nm,hnm⟩:=gX ((c.B1 tn).may.length);rw[hnm]at x4 hmv hcm;have HMV:=I hmv;have mz:=I hnm;clear hmv hnm;have k0:=H.k0;have k1:=H.k1;have k2:=H.k2;have fz:=H.fz;have hlt:=H.lt;have HST:=I (H.store tn htn Jx sN (.inl ⟨rfl,.inl ⟨rfl,rfl⟩⟩) (by simp[Value.ownBlock]) (by simp[Value.ownBlock]))
 have ii:=I (show∀w',(∀k,k≠h->hSM w' w k)->Below 0 w w'->BX w w' h ms (Gr ms tn sN)from
  λw' hk hb=>⟨hb.os,hb.tape,hb.output,hb.size,λk _ hne _=>hk k hne,λi hi k hik=>by
   unfold Gr at hik;split at hik
   .simp[Value.ownBlock]at hik
   .exact .inl ⟨i,hi,hik⟩⟩)
 have wM:=I (show∀(w1 w2:tyW) (ms':Nat->Value),BX w w1 h ms ms'->Up w1 w2->BX w w2 h ms ms' from λw1 w2 ms' f u=>f.up u);rw[hon]at x0;cases hwr:(c.B1 tn).wr
 rotate_left
 .rw[hwr]at x1;have e0:c.Bm tn d=(0,0,{c.put tn Jx with value:=(c.B1 tn).val}):=by unfold CS.Bm;rw[AI J,Gl,AI (by simp[hon]),AK hwr]
  rw[e0]
  have HP:=I (show∀o,∃ms',CellIs (((MB w h (3+tn*5) false false () false sN).setCell (aD h 2) (O (c.B1 tn).val)).alloc o) h B {c.put tn Jx with value:=(c.B1 tn).val} ms'/\BX w (((MB w h (3+tn*5) false false () false sN).setCell (aD h 2) (O (c.B1 tn).val)).alloc o) h ms ms' from λo=>
   ⟨Gr ms tn sN,(HST.val _).up ((AV _).alloc o),wM _ _ _ (ii _ (λk hne=>(BF (MB w h (3+tn*5) false false () false sN) ⟨h,2,none⟩ _ k hne).trans (JU _ _ _ _ _ _ _ _ _ hne)) ((Oi w h (3+tn*5) 0 _ _ _ _ _ (DV _)).setCell (p:=aD h 2) (DV _) _)) ((AV _).alloc o)⟩)
  clear H hon hwr e0;go_enter Tryz.func81,Tryz.ntmps81
  go_wp2
  go_ret2;exact⟨rfl,HP _⟩
 rw[hwr]at x1;have e0:c.Bm tn d=(Qi c (c.B1 tn) d,0,c.put tn Jx):=by unfold CS.Bm;rw[AI J,Gl,AI (by simp[hon]),AI (by simp[hwr])]
 rw[e0]
 have HP:=I (show∀o,∃ms',CellIs ((MB w h (3+tn*5) false false () false sN).alloc o) h B (c.put tn Jx) ms'/\BX w ((MB w h (3+tn*5) false false () false sN).alloc o) h ms ms' from λo=>
  ⟨Gr ms tn sN,HST.up ((AV _).alloc o),wM _ _ _ (ii _ (λk hne=>JU _ _ _ _ _ _ _ _ _ hne) (Oi w h (3+tn*5) 0 _ _ _ _ _ (DV _))) ((AV _).alloc o)⟩)
 obtain⟨ov,hov⟩:=gX ((c.B1 tn).ov);rw[hov]at x3;obtain⟨kd,hkd⟩:=gX c.kind;rw[hkd]at k0;have wN:=I (show Qi c (c.B1 tn) d=if kd=1/\ov=true then Di d c.top else if kd=2 then(c.B1 tn).may.getD (Di d ((nm:tyI)-1)).toNat 0 else c.value from by unfold Qi;rw[hkd,hov,mz]);have ZB:=I (λn top W=>eu n top W);have HGP:=I (show kd=2->0<nm from λe=>by have:=hg.pos tn htn hon hwr (by rw[hkd,e]);rw[mz]at this;exact this);have wO:=I (show D0 w B (AR Am nm cm) (c.B1 tn).may from by rw[<-HMV];exact H.own tn htn);have HAP:=I (show(Value.slice Am nm cm).ownBlock≠some h from by rw[<-HMV];exact H.apart tn htn);clear H hon hwr e0 hov hkd;by_cases hk1:kd=1
 .subst hk1;cases ov
  .have HT2:=I (wN.trans (by rw[AI Az,AI AQ]));go_enter Tryz.func81,Tryz.ntmps81
   go_wp2
   go_ret2;exact⟨by rw[HT2];rfl,HP _⟩
  .have HT2:=I (wN.trans (by rw[AK ⟨rfl,rfl⟩]));go_enter Tryz.func81,Tryz.ntmps81;go_wp2_with fail;refine(ZB _ _ _).mono ?_;rintro e w1 ⟨rfl,rfl⟩
   go_wp2
   go_ret2;exact⟨by rw[HT2];rfl,HP _⟩
 by_cases hk2:kd=2;rotate_left
 .have HT2:=I (wN.trans (by rw[AI (λe=>hk1 e.1),AI hk2]));have q1:(kd==1)=false:=by rw[Dy];exact hk1
  have q2:(kd==2)=false:=by rw[Dy];exact hk2
  go_enter Tryz.func81,Tryz.ntmps81
  go_wp2
  go_ret2;exact⟨by rw[HT2];rfl,HP _⟩
 subst hk2;have hpos:=HGP rfl;have Yp:nm<=100000:=by have:=hg.few tn htn;rw[mz]at this;omega
 have hw:=mh d ((nm:tyI)-1) J;obtain⟨ix,hix⟩:∃i:Nat,Di d ((nm:tyI)-1)=i:=⟨(Di d ((nm:tyI)-1)).toNat,J⟩;rw[hix]at hw;have HT2:=I (wN.trans (by rw[AI Az,AK rfl,hix,Gl]));obtain⟨x,hx⟩:=gX ((c.B1 tn).may.getD ix 0);rw[hx]at HT2
 obtain⟨g,hAm,hgs,hrow⟩:∃g,Am=some ⟨g,0,none⟩/\g<w.heap.size/\∀j u,(Aj (c.B1 tn).may)[j]?=some u->V w g j u:=by
  rcases wO.out with h1|⟨g,h1,h2,h3,h4⟩
  .rcases h1.2 with⟨_,hn⟩|⟨g,cap,cur,hv,hb,hh,h5,_⟩
   .rw[mz]at hn;omega
   .simp only[MI]at hv;refine⟨g,hv.1,(gE hh).1,λj u hu=>?_⟩;have:=h1.cells (g:=g) (by rw[hv.1];rfl) j u hu;rw[JC,Dw]at this;exact this
  .simp only[MI]at h1;exact⟨g,h1.1,h3,h4⟩
 subst hAm;have hgh:g≠h:=λe=>HAP (by rw[e];rfl)
 have hxc:V w g ix (O x):=hrow ix _ (by unfold Aj;rw[BY,gG (by rw[mz];omega)];rw[<-hx,getD_lt (by rw[mz];omega)];rfl);have hU:Up (MB w h (3+tn*5) false false () false sN) ((MB w h (3+tn*5) false false () false sN).alloc (Y #[true,false,O (c.B1 tn).val,ov,BG g 0 nm cm] 191)):=(AV _).alloc _;have hsz:(MB w h (3+tn*5) false false () false sN).heap.size=w.heap.size:=N2 _ _ _ _ _ _ _ _;have hbx:=Ah (MB w h (3+tn*5) false false () false sN) (Y #[true,false,O (c.B1 tn).val,ov,BG g 0 nm cm] 191);rw[hsz]at hbx;have S0:V ((MB w h (3+tn*5) false false () false sN).alloc (Y #[true,false,O (c.B1 tn).val,ov,BG g 0 nm cm] 191)) w 4 (BG g 0 nm cm)/\V ((MB w h (3+tn*5) false false () false sN).alloc (Y #[true,false,O (c.B1 tn).val,ov,BG g 0 nm cm] 191)) g ix (O x):=⟨Ar _ _ 4 _ _ _ hbx,(CI ((hU.block g (by rw[hsz];exact hgs)).trans (JU _ _ _ _ _ _ _ _ _ hgh))).trans hxc⟩;have yt:=I S0;have Vm:=I (show∀W,Calls Tryz.prog 109 #[d,O ((nm:tyI)-1)] W λe w'=>e=BA (O (ix:tyI))/\w'=W from λW=>by have:=ZB.out d ((nm:tyI)-1) W;rw[hix]at this;exact this);have hxi:(ix:tyI)<nm:=J;have hx0:(0:tyI)<=ix:=J;have hw1:IntKind.i64.wrap ((nm:tyI)-1)=(nm:tyI)-1:=by simp[IntKind.wrap,IntKind.bits,IntKind.signed];omega
 have hw2:wrap64 ((nm:tyI)-1)=(nm:tyI)-1:=IntWalk.wrap64_in _ J;obtain⟨W,hW⟩:=gX ((MB w h (3+tn*5) false false () false sN).alloc (Y #[true,false,O (c.B1 tn).val,ov,BG g 0 nm cm] 191));have HPW:=I (show∃ms',CellIs W h B (c.put tn Jx) ms'/\BX w W h ms ms' from by rw[<-hW];exact HP _);rw[hW]at yt;unfold MB at hW;have HW:=I hW;clear S0 hrow hx hxc hU hsz hbx hix hw hpos wN wO HGP ZB HP HST ii wM HH hW;go_enter Tryz.func81,Tryz.ntmps81;go_wp2_with fail;rw[HW];clear x0 x1 x2 x3 x4 k0 k1 k2 fz;refine Br (S:=λw'=>V w' w 4 (BG g 0 nm cm)/\V w' g ix (O x)) Ay yt (λhH0=>?_);refine tq 0 hH0 ?_;refine tq 1 hH0 ?_;refine tq 2 hH0 ?_;refine tq 3 hH0 ?_;refine tq 4 hH0 ?_;refine tq 5 hH0 ?_;refine tq 6 hH0 ?_;refine tr 7 λK hK=>?_
 go_simp
 try rw[hw1]
 refine(Vm _).mono ?_;rintro e w1 ⟨rfl,rfl⟩;refine bk hK hH0 λhH1=>?_
 refine tq 8 hH1 ?_;refine tq 9 hH1 ?_;refine tq 10 hH1 ?_;refine tq 11 hH1 ?_;refine CN Ay ?_ _;simp only[Act.put,DH,DI,DG,Gi,Gg,GX]
 go_wp2
 go_ret2;obtain⟨ms',p1,p2⟩:=HPW.out;exact⟨by rw[HT2];rfl,ms',p1.up (AV _).drew,p2.up (AV _).drew⟩
theorem CellIs.over(H:CellIs w h B c ms)(i:tyN)(hi:i<8)(v:tyI)(m':tyV)(hp:KB w w' h (3+i*5) (ms i) m')(hm:D0 w' B m' (if c.kind=2 then(c.B1 i).may++[v]else(c.B1 i).may)):
  CellIs w' h B (c.put i (aJ c.kind v (c.B1 i))) (Gr ms i m')/\BX w w' h ms (Gr ms i m'):=by
 obtain⟨x0,x1,x2,x3,x4⟩:=H.acc i hi;have hlt:=H.lt;have hge:=λj hj=>(H.own j hj).ge
 have UR:∀b,b<w.heap.size->(ms i).ownBlock≠some b->m'.ownBlock≠some b:=λb hb hne=>by
  rcases hp.ob with h1|h1
  .rw[h1];exact hne
  .intro e;have:=h1 b e;omega
 refine⟨⟨DB H.sz hp.size,(hp.Iu 0 J J).trans H.k0,(hp.Iu 1 J J).trans H.k1,(hp.Iu 2 J J).trans H.k2,λj hj=>?_,λj=>(hp.fz j).trans (H.fz j),λj hj=>?_,λj hj=>?_,λa b ha hb hab k hk=>?_⟩,⟨hp.os,hp.tape,hp.output,hp.size,λk hk hne hall=>hp.block k hk hne (hall i hi),λj hj k hk=>?_⟩⟩
 .by_cases e:j=i
  .subst e;simp only[CS.put,Gr,AK];exact⟨(hp.Iu _ J J).trans x0,(hp.Iu _ J J).trans x1,(hp.Iu _ J J).trans x2,hp.c3,hp.c4⟩
  .obtain⟨y0,y1,y2,y3,y4⟩:=H.acc j hj;simp only[CS.put,Gr,AI e];have far:j*5+5<=i*5\/i*5+5<=j*5:=J;exact⟨(hp.Iu _ J J).trans y0,(hp.Iu _ J J).trans y1,(hp.Iu _ J J).trans y2,(hp.Iu _ J J).trans y3,(hp.Iu _ J J).trans y4⟩
 .by_cases e:j=i
  .subst e;simp only[CS.put,Gr,AK,aJ];exact hm
  .simp only[CS.put,Gr,AI e];exact(H.own j hj).same hp.size λk hkk=>hp.block k (hge j hj k hkk).2 (λe2=>H.apart j hj (by rw[hkk,e2])) (λe2=>H.two j i hj hi e k hkk e2)
 .unfold Gr;split
  .exact UR h hlt (H.apart i hi)
  .exact H.apart j hj
 .unfold Gr at hk|-;split at hk
  .rename_i hai;subst hai;rw[AI (λe=>hab e.symm)];rcases hp.ob with h1|h1
   .rw[h1]at hk;exact H.two a b ha hb hab k hk
   .intro e2;have:=h1 k hk;have:=hge b hb k e2;omega
  .rename_i hai;split
   .rename_i hbi;subst hbi;intro e2;rcases hp.ob with h1|h1
    .rw[h1]at e2;exact H.two b a hb ha (λe=>hab e.symm) k e2 hk
    .have:=h1 k e2;have:=hge a ha k hk;omega
   .exact H.two a b ha hb hab k hk
 .unfold Gr at hk;split at hk
  .rcases hp.ob with h1|h1
   .exact .inl ⟨i,hi,by rw[<-h1];exact hk⟩
   .exact .inr (h1 k hk)
  .exact .inl ⟨j,hj,hk⟩
theorem BX.trans{a b c:tyW}{m0 m1 m2:Nat->Value}(f:BX a b h m0 m1)(g:BX b c h m1 m2):BX a c h m0 m2:=by
 refine⟨g.os.trans f.os,g.tape.trans f.tape,g.output.trans f.output,DB f.size g.size,λk hk hne hall=>?_,λi hi k hk=>?_⟩
 .refine(g.block k (B5 hk f.size) hne λi hi e=>?_).trans (f.block k hk hne hall);rcases f.new i hi k e with⟨j,hj,h2⟩|h2
  .exact hall j hj h2
  .omega
 .rcases g.new i hi k hk with⟨j,hj,h2⟩|h2
  .exact f.new j hj k h2
  .exact .inr (DB f.size h2)
theorem NS(c:CS)(v:tyI):∀n,(Ju c v n).kind=c.kind/\(Ju c v n).top=c.top/\(Ju c v n).value=c.value
 |0=>⟨rfl,rfl,rfl⟩
 |n+1=>by
  have:=NS c v n;unfold Ju;split
  .exact this
  .exact this
theorem Nk(c:CS)(v:tyI):∀n i,(Ju c v n).B1 i=if i<n/\(c.B1 i).on=true/\(c.B1 i).wr=false then aJ c.kind v (c.B1 i)else c.B1 i
 |0,i=>by rw[AI J];rfl
 |n+1,i=>by
  have hn:=Nk c v n n;rw[AI J]at hn;have hi:=Nk c v n i;have hk:=(NS c v n).1;unfold Ju;rw[hn];by_cases hc:(c.B1 n).on=true/\(c.B1 n).wr=false
  .rw[AK hc];unfold CS.put;by_cases e:i=n
   .subst e;simp only[AK];rw[AK ⟨J,hc⟩]
   .simp only[AI e];rw[hi];by_cases h2:i<n/\(c.B1 i).on=true/\(c.B1 i).wr=false
    .rw[AK h2,AK ⟨J,h2.2⟩]
    .rw[AI h2,AI (λh3=>h2 ⟨J,h3.2⟩)]
  .rw[AI hc,hi];by_cases h2:i<n/\(c.B1 i).on=true/\(c.B1 i).wr=false
   .rw[AK h2,AK ⟨J,h2.2⟩]
   .rw[AI h2,AI (λh3=>by
     by_cases e:i=n
     .subst e;exact hc h3.2
     .exact h2 ⟨J,h3.2⟩)]
theorem D0.weak{B':tyN}{l:tyL}(h:D0 w B m l)(hb:B'<=B):D0 w B' m l:=by
 rcases h with h|⟨g,h1,h2,h3,h4⟩
 .refine .inl ⟨h.1,h.2.imp id λ⟨g,cap,cur,e1,e2,e3⟩=>⟨g,cap,cur,e1,J,e3⟩⟩
 .exact .inr ⟨g,h1,J,h3,h4⟩
theorem CellIs.lay{W:tyW}{ms0:Nat->Value}(H:CellIs W h B c ms)(f:BX w W h ms0 ms)(t:tyN)(ht:t<8)(a:QA)(m:tyV)(hm:D0 W B m a.may)(hnew:∀k,m.ownBlock=some k->w.heap.size<=k/\k<W.heap.size/\∀i,i<8->(ms i).ownBlock≠some k)(hlt:h<w.heap.size):
  CellIs (MB W h (3+t*5) (.bool a.on) (.bool a.wr) a.val (.bool a.ov) m) h B (c.put t a) (Gr ms t m)/\BX w (MB W h (3+t*5) (.bool a.on) (.bool a.wr) a.val (.bool a.ov) m) h ms0 (Gr ms t m):=by
 refine⟨H.store t ht a m hm (λe=>by have:=(hnew h e).1;omega) (λj hj hne k hk=>(hnew k hk).2.2 j hj),?_⟩;have hb:=Oi W h (3+t*5) 0 (.bool a.on) (.bool a.wr) a.val (.bool a.ov) m (DV _);refine⟨hb.os.trans f.os,hb.tape.trans f.tape,hb.output.trans f.output,DB f.size hb.size,λk hk hne hall=>(JU _ _ _ _ _ _ _ _ _ hne).trans (f.block k hk hne hall),λi hi k hk=>?_⟩;unfold Gr at hk;split at hk
 .exact .inr (hnew k hk).1
 .exact f.new i hi k hk
theorem Tj(h B N:tyN)(c:CS)(ms:Nat->Value)(t k cl v:tyI)(w:tyW)(H:CellIs w h B c ms)(hg:Do c N)(hN:N<=90000):
  Calls Tryz.prog 115 #[pT h,t,.agg #[k,cl,v]] w λe w'=>e=BA (O (c.begin t k v).1)/\∃ms',CellIs w' h B (c.begin t k v).2 ms'/\BX w w' h ms ms':=by
 have HH:=I H;have nA:Up w (w.alloc (Y #[k,cl,v] 111)):=(AV w).alloc _;have hbx:=Ah w (Y #[k,cl,v] 111);have HF:=I (show CellIs (w.alloc (Y #[k,cl,v] 111)) h B c ms/\BX w (w.alloc (Y #[k,cl,v] 111)) h ms ms from⟨H.up nA,BX.Bp nA⟩);obtain⟨W,hW⟩:=gX (w.alloc (Y #[k,cl,v] 111));rw[hW]at nA hbx HF;have HW:=I hW;have HU:=I nA;have b0:=cI hbx 0;have b2:=cI hbx 2;have nI:=I hbx;clear hW nA hbx;by_cases h1:t<0
 .have e0:c.begin t k v=(1,c):=by unfold CS.begin;rw[AK (.inl h1)]
  rw[e0];clear e0 H;go_enter Tryz.func115,Tryz.ntmps115;go_wp2_with fail;rw[HW]
  go_wp2
  go_ret;exact⟨rfl,ms,HF⟩
 by_cases h2:8<=t
 .have e0:c.begin t k v=(1,c):=by unfold CS.begin;rw[AK (.inr (.inl h2))]
  rw[e0];clear e0 H;go_enter Tryz.func115,Tryz.ntmps115;go_wp2_with fail;rw[HW]
  go_wp2
  go_ret;exact⟨rfl,ms,HF⟩
 by_cases h3:k≠1/\k≠2
 .have e0:c.begin t k v=(1,c):=by unfold CS.begin;rw[AK (.inr (.inr h3))]
  rw[e0];obtain⟨q1,q2⟩:=h3;have p1:(k !=1)=true:=by simp[bne,q1]
  have p2:(k !=2)=true:=by simp[bne,q2]
  clear e0 H;go_enter Tryz.func115,Tryz.ntmps115;go_wp2_with fail;rw[HW]
  go_wp2
  go_ret;exact⟨rfl,ms,HF⟩
 obtain⟨tn,rfl⟩:∃tn:Nat,t=tn:=⟨t.toNat,J⟩;have htn:tn<8:=J;have ht0:(0:tyI)<=tn:=J;have wJ:(tn:tyI)<8:=J;obtain⟨x0,x1,x2,x3,x4⟩:=HF.1.acc tn htn;have ABB:k=1\/k=2:=J;cases hon:(c.B1 tn).on
 rotate_left
 .have e0:c.begin tn k v=(12,c):=by unfold CS.begin;rw[AI J,Gl,AK hon]
  rw[e0];rw[hon,<-HW]at x0;clear e0 H hon x1 x2 x3 x4;rcases ABB with rfl|rfl
  all_goals
   go_enter Tryz.func115,Tryz.ntmps115;go_wp2_with fail;rw[HW]
   go_wp2
   go_ret;exact⟨rfl,ms,HF⟩
 rw[hon]at x0;have fz:=HF.1.fz;obtain⟨Am,cm,hmv,-⟩:=(HF.1.own tn htn).form;rw[hmv]at x4;rw[<-HW]at x0;rcases ABB with rfl|rfl
 .have e0:c.begin tn 1 v=(0,c.put tn (BW c 8)):=by unfold CS.begin;rw[AI J,Gl,AI (by simp[hon]),AK rfl]
  rw[e0];clear e0 hon;have HRD:=I (iQ h B c ms W.drew (HF.1.up (AV W).drew));go_enter Tryz.func115,Tryz.ntmps115;go_wp2_with fail;rw[HW];go_wp2_with fail;clear x0 x1 x2 x3 x4 b0 b2;refine Br (S:=λ_=>True) Ay trivial (λhH0=>?_);refine tq 0 hH0 ?_;refine tq 1 hH0 ?_;refine tq 2 hH0 ?_;refine tq 4 hH0 ?_;refine tq 5 hH0 ?_;refine tr 3 λK hK=>?_
  go_simp;refine HRD.mono ?_;rintro e w1 ⟨m,rfl,hu,hm⟩;have nD:=((AV W).drew).trans hu;have M2:=I (HF.1.up nD);have bC:=I (HF.2.trans (BX.Bp (ms:=ms) nD));have hlt:h<w.heap.size:=HH.lt;have HUs:=I hu;obtain⟨x0,x1,x2,x3,x4⟩:=M2.acc tn htn;have fz1:=M2.fz;obtain⟨Am1,cm1,ABC,-⟩:=(M2.own tn htn).form;rw[ABC]at x4;have HM:=I hm;obtain⟨Am2,cm2,rfl,-⟩:=hm.form;clear hu hm nD hmv ABC;refine bk hK trivial λhH1=>?_
  refine tq 6 hH1 ?_;refine tr 7 λK hK=>?_
  go_simp
  have HL:=I (M2.lay bC tn htn (BW c 8) (AR Am2 (BW c 8).may.length cm2) (HM.weak (DB HH.sz (DB HU.size (A9 _)))) (λk hk=>by
   have:=HM.out.ge k hk;have hs:w.heap.size<=W.drew.heap.size:=HU.size
   exact⟨J,this.2,λi hi e=>by have:=((HH.out.own i hi).ge k e).2;omega⟩) hlt)
  unfold MB at HL;refine bk hK trivial λhH2=>?_
  refine CN Ay ?_ _
  try simp only[Act.put,DH,DI,DG,Ei,Ef,Ee]
  clear x0 x1 x2 x3 x4 fz fz1
  go_wp2
  go_ret;exact⟨rfl,_,HL⟩
 .have hcl:AZ v c.top=AZ v c.top:=rfl;generalize hV:AZ v c.top=AF;have e0:c.begin tn 2 v=(0,(Ju c AF 8).put tn ⟨true,true,AF,false,[]⟩):=by unfold CS.begin;rw[AI J,Gl,AI (by simp[hon]),AI AQ,hV]
  rw[e0];clear e0 hon;have k1:=HF.1.k1;have hS0:V W w 2 v/\V W h 1 c.top:=⟨b2,k1⟩;have yt:=I hS0;have Px:=I (Cu v c.top);clear hS0;go_enter Tryz.func115,Tryz.ntmps115;go_wp2_with fail;rw[HW];clear x0 x1 x2 x3 x4 fz hmv b0 b2 k1 hcl;refine Br (S:=λw'=>V w' w 2 v/\V w' h 1 c.top) Ay yt (λhH0=>?_);refine tq 0 hH0 ?_;refine tq 1 hH0 ?_;refine tq 2 hH0 ?_;refine tq 3 hH0 ?_;refine tq 4 hH0 ?_;refine tq 5 hH0 ?_;refine tr 6 λK hK=>?_
  go_simp;refine(Px _).mono ?_;rintro e w1 ⟨rfl,rfl⟩;rw[hV];refine bk hK hH0 λhH1=>?_
  refine tq 7 hH1 ?_;refine CN Ay ?_ _
  try simp only[Act.put,DH,DI,DG,Ei,Ef,Ee]
  go_wp2_with fail;have yw:=I hV;have HS:=I (show CellIs W.drew h B c ms/\BX w W.drew h ms ms from⟨HF.1.up (AV W).drew,HF.2.trans (BX.Bp (AV W).drew)⟩);clear hV
  go_loopw[52] (λt wr=> ∃(k:tyN) (ms':Nat->Value),k<=8/\t=O k/\Hid (CellIs wr h B (Ju c AF k) ms'/\BX w wr h ms ms')) (λt _=>8-(intOf t).toNat)
  case atStart=>exact⟨0,ms,J,rfl,HS⟩
  case round=>
   obtain⟨k,ms',rR,rfl,Fw⟩:=hrel;have Ea:=I HH.lt;by_cases hlt:k<8
   .have hbk:(Ju c AF k).B1 k=c.B1 k:=by rw[Nk,AI J]
    obtain⟨y0,y1,y2,y3,y4⟩:=Fw.1.acc k hlt;have hki:(k:tyI)<8:=J;have hk0:(0:tyI)<=k:=J;have hs:Ju c AF (k+1)=if((Ju c AF k).B1 k).on=true/\((Ju c AF k).B1 k).wr=false then(Ju c AF k).put k (aJ c.kind AF ((Ju c AF k).B1 k))else Ju c AF k:=rfl
    have my:=I (LW h h (3+k*5) B (Ju c AF k).kind AF (ms' k) ((Ju c AF k).B1 k).ov ((Ju c AF k).B1 k).may wr Fw.1.k0 y3 y4 Fw.1.fz (Fw.1.own k hlt) Fw.1.sz (by rw[hbk];have:=hg.few k hlt;omega) (Fw.1.apart k hlt));have HST:=I (λw2 m' hp hm=>Fw.1.over (w':=w2) k hlt AF m' hp hm);rw[hbk]at y0 y1 hs;obtain⟨on,hon⟩:=gX ((c.B1 k).on);obtain⟨wrt,hwr⟩:=gX ((c.B1 k).wr);rw[hon]at y0 hs;rw[hwr]at y1 hs;have HS2:=I hs;clear hs hon hwr y2 y3 y4;cases on
    .have nE:=I (HS2.trans (AI Az));clear y1
     go_wp2
     go_roundw
     case rel=>exact⟨k+1,ms',J,by go_num,I (by rw[nE];exact Fw)⟩
     case measure=>simp[intOf];omega
    cases wrt
    rotate_left
    .have nE:=I (HS2.trans (AI Az))
     go_wp2
     go_roundw
     case rel=>exact⟨k+1,ms',J,by go_num,I (by rw[nE];exact Fw)⟩
     case measure=>simp[intOf];omega
    have nE:=I (HS2.trans (AK ⟨rfl,rfl⟩));clear HS2;go_wp2_with fail;refine my.mono ?_;rintro e w2 ⟨rfl,m',hp,hm,-⟩;obtain⟨q1,q2⟩:=HST w2 m' hp hm;have HS4:=I (show CellIs w2 h B (Ju c AF (k+1)) (Gr ms' k m')/\BX w w2 h ms (Gr ms' k m')from⟨by rw[nE];rw[hbk,(NS c AF k).1]at q1;exact q1,Fw.2.trans q2⟩);clear hp hm q1 q2 y0 y1 my HST
    go_wp2
    go_roundw
    case rel=>exact⟨k+1,_,J,by go_num,HS4⟩
    case measure=>simp[intOf];omega
   .obtain rfl:k=8:=J;clear hlt;obtain⟨x0,x1,x2,x3,x4⟩:=Fw.1.acc tn htn;have fz:=Fw.1.fz;obtain⟨Am,cm,hmv,-⟩:=(Fw.1.own tn htn).form;rw[hmv]at x4;have HL:=I (Fw.1.lay Fw.2 tn htn ⟨true,true,AF,false,[]⟩ sN (.inl ⟨rfl,.inl ⟨rfl,rfl⟩⟩) (by simp[Value.ownBlock]) Ea);unfold MB at HL;clear hmv
    go_wp2
    go_ret;exact⟨rfl,_,HL⟩
end
end Go.Proofs.YtpodgcpkccpnfaaGreat
