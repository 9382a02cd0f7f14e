import Derived.Deep.Slices
import Derived.Deep.Fields
import Derived.ChangeSame
import Derived.Test.YtpodgcpkccpnfaaGreatPk01
set_option linter.unusedVariables false
set_option linter.unusedSimpArgs false
set_option maxRecDepth 20000
set_option maxHeartbeats 40000000
namespace Go.Proofs.YtpodgcpkccpnfaaGreat
variable{b:Nat}
section
open Go.ChangeShapes Go.WideShapes Go.ChangeAt Go.RowKit Go.Deep
structure C6 where
 Ko:Int
 to:Int
 wr:Bool
 val:Int
 LD:Int
def Ax:C6:=⟨0,0,false,0,0⟩
def WX (o:C6):List Value:=[.int .i64 o.Ko,.int .i64 o.to,.bool o.wr,.int .i64 o.val,.int .i64 o.LD]
def JA (l:List C6):List Value:=l.flatMap WX
def gM (o:C6):Value:= .agg #[o.Ko,o.to,.bool o.wr,o.val,o.LD]
theorem Sg(l m:List C6):JA (l++m)=JA l++JA m:=by unfold JA;rw[Y8]
theorem eY(l:List C6):∀k,k<l.length->∀j,j<5->(JA l)[k*5+j]?=(WX (l.getD k Ax))[j]?:=by
 induction l with
 |nil=>intro k hk;simp at hk
 |cons a l ih=>
  intro k hk j hj;have e:JA (a::l)=WX a++JA l:=rfl;have e5:(WX a).length=5:=rfl;rw[e];cases k with
  |zero=>
   rw[RR,Dw,IC J];rfl
  |succ k=>
   rw[Gb J,e5,show(k+1)*5+j-5=k*5+j by omega];exact ih k (Cw hk) j hj
def qU (w:tyW)(b off:tyN)(o:C6):Prop:=w.cell? (aD b off)=SY o.Ko/\V w b (off+1) o.to/\V w b (off+2) (.bool o.wr)/\V w b (off+3) o.val/\V w b (off+4) o.LD
theorem qU.up{w w':tyW}{off:tyN}{o:C6}(h:qU w b off o)(u:Up w w'):qU w' b off o:=
 ⟨(u.cell (AJ h.1)).trans h.1,(u.cell (AJ h.2.1)).trans h.2.1,(u.cell (AJ h.2.2.1)).trans h.2.2.1,(u.cell (AJ h.2.2.2.1)).trans h.2.2.2.1,(u.cell (AJ h.2.2.2.2)).trans h.2.2.2.2⟩
def Gh (w:tyW)(A:tyA)(l:List C6):Prop:= ∀k,k<l.length->∃b off,A=some ⟨b,off,none⟩/\qU w b (off+k*5) (l.getD k Ax)
theorem Gh.up{w w':tyW}{A:tyA}{l:List C6}(h:Gh w A l)(u:Up w w'):Gh w' A l:=λk hk=>by
 obtain⟨b,off,e,h1⟩:=h k hk;exact⟨b,off,e,h1.up u⟩
theorem Gh.nil(w:tyW)(A:tyA):Gh w A []:=λk hk=>absurd hk (Uu k)
def vF (w:tyW)(B:tyN)(v:tyV)(l:List C6):Prop:=w.ownsRow B 81 5 v l.length (JA l)
theorem vF.row{w:tyW}{B:tyN}{v:tyV}{l:List C6}(ho:vF w B v l):∃A cc,v=AR A l.length cc/\Gh w A l:=by
 rcases ho.2 with⟨a1,a2⟩|⟨g,cap,cur,a1,_⟩
 .exact⟨none,0,by rw[a1,a2],λj hj=>J⟩
 .refine⟨_,cap,a1,λj hj=>⟨g,0,rfl,?_⟩⟩;have ho':=ho;rw[a1]at ho'
  have c:∀q,q<5->w.cell? (aD g (0+j*5+q))=(WX (l.getD j Ax))[q]?:=λq hq=>by
   rw[Dw];exact(ho'.cellAt (j*5+q) J).trans (eY l j hj q hq)
  exact⟨c 0 AQ,c 1 AQ,c 2 AQ,c 3 AQ,c 4 AQ⟩
section
variable {H:Type}{enc:TypeId×Value->H}{P:Program}{w:tyW}
end
theorem gp{w:tyW}{F T AF Th:tyI}{Wr:Bool}{t:TypeId}(h:BR w b #[F,T,Wr,AF,Th] t):
  V w b 0 F/\V w b 1 T/\V w b 2 Wr/\V w b 3 AF/\V w b 4 Th:=
 ⟨Ar _ _ 0 _ _ _ h,Ar _ _ 1 _ _ _ h,Ar _ _ 2 _ _ _ h,Ar _ _ 3 _ _ _ h,Ar _ _ 4 _ _ _ h⟩
theorem j8{w w':tyW}{o:Obj}(h:w.heap[b]?=some o)(u:Up w w'):w'.heap[b]?=some o:=(u.block _ (gE h).1).trans h
def Bt (a b:C6):Bool:=(a.to != -1)&&decide (a.to<b.Ko)
end
section
open Go.RowKit
def hasB (s t:tyN):Bool:=s/2^t%2==1
def Dk (s t:tyN):Nat:=if hasB s t then s else s+2^t
def Nd:Nat:=2^64
theorem RY:Nd=18446744073709551616:=AQ
theorem RJ{s t:tyN}(h:hasB s t=false):(s+2^t)/2^(t+1)=s/2^(t+1):=by
 unfold hasB at h
 have h1:s/2^t%2=0:=by
  have:=Dy.1 h;omega
 rw[cw,<-WM,<-WM,Nat.add_div_right _ (Tb t)];omega
theorem Tu(s t k:tyN):hasB (Dk s t) k=(k==t||hasB s k):=by
 unfold Dk;cases h:hasB s t
 .simp only[qa,pH];by_cases hk:k=t
  .subst hk;rw[beq_self_eq_true,Bool.true_or];unfold hasB at h|-;have:=Dy.1 h;rw[Nat.add_div_right _ (Tb k),Xb];omega
  .rw[Dy.2 hk,jm];rcases CR k t with hlt|hge
   .unfold hasB;obtain⟨d,rfl⟩:∃d,t=k+1+d:=⟨t-k-1,J⟩;have e:2^(k+1+d)=2^k*(2*2^d):=by rw[Ww,cw,Nat.mul_assoc]
    rw[e,Nat.add_mul_div_left _ _ (Tb k)];have:(s/2^k+2*2^d)%2=s/2^k%2:=J;rw[this]
   .obtain⟨d,rfl⟩:∃d,k=t+1+d:=⟨k-t-1,J⟩;unfold hasB;rw[Ww,<-WM,<-WM,RJ h]
 .simp only[Ke];by_cases hk:k=t
  .subst hk;rw[h];simp
  .rw[Dy.2 hk,jm]
theorem Xx{s t:tyN}(hs:s<Nd)(ht:t<64):Dk s t<Nd:=by
 unfold Dk;cases h:hasB s t
 .simp only[qa,pH];have h1:=RJ h;obtain⟨d,hd⟩:∃d,64=t+1+d:=⟨63-t,J⟩;have e:Nd=2^(t+1)*2^d:=by unfold Nd;rw[hd,Ww]
  rw[e]at hs|-;have h2:s/2^(t+1)<2^d:=Nat.div_lt_of_lt_mul hs;rw[<-h1]at h2;have:=Nat.lt_mul_of_div_lt h2 (Tb _);rw[Nat.mul_comm]at this;exact this
 .simp only[Ke];exact hs
theorem X8{j:tyN}(h:j<=63):2^j<=9223372036854775808:=by
 have:=Nat.pow_le_pow_right (show 0<2 by decide) h;exact DB this AQ
theorem AAP(x:tyI)(h0:0<=x)(h1:x<18446744073709551616):IntKind.u64.wrap x=x:=by
 simp[IntKind.wrap,IntKind.signed,IntKind.bits];omega
theorem Re(s t:tyN)(w:tyW)(hs:s<Nd)(ht:t<64):Calls Tryz.prog 64 #[.int .u64 s,t] w λe w'=>e=BA (.bool (hasB s t))/\w'=w:=by
 have HS:Hid (∀j,j<=t->((s/2^j:tyN):tyI)<=18446744073709551615):=I (λj _=>by
  have:=Nat.div_le_self s (2^j);rw[RY]at hs
  omega)
 have HD:Hid (∀j,((s/2^j:tyN):tyI)/2=((s/2^(j+1):tyN):tyI)):=I (λj=>by
  rw[cw,<-WM]
  exact(Int.natCast_ediv _ _).symm)
 have HH:Hid ((((s/2^t:tyN):tyI)%2==1)=hasB s t):=I (by
  unfold hasB;rw[dR,Xb,Xb]
  omega)
 have H0:Hid (((s/2^0:tyN):tyI)=(s:tyI)):=I Az;have hti:(t:tyI)<=63:=J;have ht0:(0:tyI)<=t:=J;generalize hasB s t=r at*;clear hs ht;go_enter Tryz.func64,Tryz.ntmps64;go_wp2_with fail
 go_loop[0,5] (λx y=> ∃j:Nat,j<=t/\y=O j/\x= .int .u64 ((s/2^j:tyN):tyI)) (λ_ y=>t-(intOf y).toNat)
 case atStart=>exact⟨0,J,rfl,by rw[H0]⟩
 case round=>
  obtain⟨j,hj,rfl,rfl⟩:=hrel;have hb:=HS j hj;have hd:=HD j;have HHD:=I hd;have hb0:(0:tyI)<=((s/2^j:tyN):tyI):=Int.natCast_nonneg _;by_cases hlt:j<t
  .have hji:(j:tyI)<t:=J;have hb2:=HS (j+1) J;generalize hy:((s/2^(j+1):tyN):tyI)=y at*;have HY:=I hy;clear hy;generalize((s/2^j:tyN):tyI)=x at*;clear hd
   go_wp2
   go_round
   case rel=>exact⟨j+1,J,by go_num,by rw[HHD,HY]⟩
   case measure=>simp[intOf];omega
  .obtain rfl:j=t:=J;clear hlt hd HHD;generalize((s/2^j:tyN):tyI)=x at*
   go_wp2
   go_ret;exact⟨by rw[<-HH];rfl,rfl⟩
theorem gN(s t:tyN)(w:tyW)(hs:s<Nd)(ht:t<64):Calls Tryz.prog 66 #[.int .u64 s,t] w λe w'=>e=BA (.int .u64 (Dk s t:tyN))/\w'=w:=by
 have C1:=I (Re s t w hs ht);have HT:=I (Xx hs ht)
 have HP:Hid (∀j,j<t->(2:tyI)^(j+1)=2*2^j/\IntKind.u64.wrap (2*2^j)=2*2^j):=I (λj hj=>by
  have h1:=X8 (show j<=62+1 by omega);have h2:=X8 (show j+1<=63 by omega);have h3:(2:tyN)^(j+1)=2*2^j:=by rw[cw,Nat.mul_comm]
  have h4:(2:tyI)^j=((2^j:tyN):tyI):=Az;have h5:(2:tyI)^(j+1)=((2^(j+1):tyN):tyI):=Az;rw[h4,h5]
  refine⟨J,AAP _ J J⟩)
 have HN:Hid (hasB s t=false->IntKind.u64.wrap ((s:tyI)+2^t)=((Dk s t:tyN):tyI)):=I (λh=>by
  have h0:=HT.out;have e:Dk s t=s+2^t:=by unfold Dk;rw[h];simp
  rw[e]at h0|-;rw[RY]at h0;have h4:(2:tyI)^t=((2^t:tyN):tyI):=Az;rw[h4,AAP _ J J]
  omega)
 have HY:Hid (hasB s t=true->Dk s t=s):=I (λh=>by unfold Dk;rw[h];simp);have hti:(t:tyI)<=63:=J;have ht0:(0:tyI)<=t:=J;generalize Dk s t=W at*;clear hs ht;go_enter Tryz.func66,Tryz.ntmps66;go_wp2_with fail;refine C1.out.mono ?_;rintro _ _ ⟨rfl,rfl⟩;cases hb:hasB s t
 .have sD:=I (HN hb);clear HN HY;go_wp2_with fail
  go_loop[5,6] (λx y=> ∃j:Nat,j<=t/\y=O j/\x= .int .u64 (2^j)) (λ_ y=>t-(intOf y).toNat)
  case atStart=>exact⟨0,J,rfl,rfl⟩
  case round=>
   obtain⟨j,hj,rfl,rfl⟩:=hrel;by_cases hlt:j<t
   .have hji:(j:tyI)<t:=J;have io:=I (HP j hlt)
    go_wp2
    go_round
    case rel=>exact⟨j+1,J,by go_num,by rw[io.2,io.1]⟩
    case measure=>simp[intOf];omega
   .obtain rfl:j=t:=J;clear hlt
    go_wp2
    go_ret;exact⟨by show Ending.returned (.int .u64 (IntKind.u64.wrap ((s:tyI)+2^j)))=_;rw[sD],rfl⟩
 .have e:=HY hb;subst e
  go_wp2
  go_ret;exact⟨rfl,rfl⟩
end
end Go.Proofs.YtpodgcpkccpnfaaGreat
