import Derived.OrdersHeld
import Derived.Lib.Hide
import Derived.Deep.RegionHeld
import Derived.Test.YtpodgcpkccpnfaaGreatChecked
import Derived.WalkKit
import Derived.WalkSpells
import Derived.Deep.AppendLies
import Derived.Deep.OwnRows
import Derived.WalkLawsBesides
import Derived.Deep.QuietTactic
import Derived.ProofKit
import Derived.OpenShut
import Derived.OpenVars
import Derived.SizedLaws
import Derived.Deep.DeepHandedRow
import Derived.Lib.LaidTab
import Derived.Laws.AppendOwnNone
import Derived.Lib.AppendZerosOnto
import Derived.Laws.OwnMore
set_option linter.unusedVariables false
set_option linter.unusedSimpArgs false
set_option maxRecDepth 20000
set_option maxHeartbeats 40000000
namespace Go.Proofs.YtpodgcpkccpnfaaGreat
section
open Go.RowKit
section
variable {P:Program}{ops:Array Oper}{Q:Exit->Act->World->Prop}{md:Region.Mode}{S:World->Prop}{oi:Oper}{fuel:Nat}{listed:Array Bool}{a:Act}{w:World}
theorem tkE (i:Nat)(v:Value)(hi:ops[i]?=some oi)
  (hc:(Region.noSelect ops&&(Region.free md ops listed i&&((Region.ready md ops listed).contains i&&Region.wanted oi (yielded ops a.tmps))))=true) (hQ:∀c a w,Q (.panic c) (a.put oi.dst v) w->Q (.panic c) a w) (hS:S w)
  (hv:∀w,S w->(execOp a.eval oi).run P w= .ok (.value v) w) (h:wpAnyH P md ops Q S fuel (listed.setIfInBounds i true) (a.put oi.dst v) w):wpAnyH P md ops Q S (fuel+1) listed a w:=by
 simp only[Bool.and_eq_true]at hc;exact wpAnyH_take hi hc.1 hc.2.1 hc.2.2.1 hQ (.inl ⟨hc.2.2.2,hv⟩) hS h
theorem rdE {o:Oper}(i:Nat)(hr:Region.ready md ops listed=[i])(ho:ops[i]?=some o)
  (h:∀K':Act->World->Prop,Shut (∀a w,S w->(S w->wpAnyH P md ops Q S fuel (listed.setIfInBounds i true) a w)->K' a w)->if Region.wanted o (yielded ops a.tmps)=true then Oper.wp P o a w K' Q else K' (a.put o.dst undef) w):wpAnyH P md ops Q S (fuel+1) listed a w:=
 wpAnyH_ready hr (by simp) (AllReadyH.cons ho h AllReadyH.nil)
theorem tq {v:Value}{a':Act}(i:Nat)(hS:S w)(h:wpAnyH P md ops Q S fuel (listed.setIfInBounds i true) a' w)(hi:ops[i]?=some oi:=by exact rfl)
 (hc:(Region.noSelect ops&&(Region.free md ops listed i&&((Region.ready md ops listed).contains i&&Region.wanted oi (yielded ops a.tmps))))=true:=by kernel_rfl)
 (hQ:∀c a w,Q (.panic c) (a.put oi.dst v) w->Q (.panic c) a w:=by exact λ_ _ _ h=>h)
 (hv:∀w,S w->(execOp a.eval oi).run P w= .ok (.value v) w:=by(intro w hSw;(try dsimp only at hSw);go_simp;(try with_reducible rfl)))
 (ha:a.put oi.dst v=a':=by((try simp only[Act.put,DH,DI,DG]);exact rfl)):wpAnyH P md ops Q S (fuel+1) listed a w:=tkE i v hi hc hQ hS hv (ha▸h)
theorem ts {a':Act}(i:Nat)(hS:S w)(h:wpAnyH P md ops Q S fuel (listed.setIfInBounds i true) a' w)(hi:ops[i]?=some oi:=by exact rfl)
  (hc:(Region.noSelect ops&&(Region.free md ops listed i&&((Region.ready md ops listed).contains i&& !(Region.wanted oi (yielded ops a.tmps)))))=true:=by kernel_rfl)
  (hQ:∀c a w,Q (.panic c) (a.put oi.dst undef) w->Q (.panic c) a w:=by exact λ_ _ _ h=>h)
  (ha:a.put oi.dst undef=a':=by((try simp only[Act.put,DH,DI,DG]);exact rfl)):wpAnyH P md ops Q S (fuel+1) listed a w:=by
 simp only[Bool.and_eq_true,Bool.not_eq_true']at hc;exact wpAnyH_take hi hc.1 hc.2.1 hc.2.2.1 hQ (.inr ⟨hc.2.2.2,rfl⟩) hS (ha▸h)
theorem bk {K:Act->World->Prop}{a':Act}(hK:Shut (∀a w,S w->(S w->wpAnyH P md ops Q S fuel listed a w)->K a w))(hS:S w)(h:S w->wpAnyH P md ops Q S fuel listed a' w)
  (ha:a=a':=by((try simp only[Act.put,DH,DI,DG]);exact rfl)):K a w:=by
 subst ha;exact hK a w hS h
theorem tr {o:Oper}(i:Nat)(h:∀K':Act->World->Prop,Shut (∀a w,S w->(S w->wpAnyH P md ops Q S fuel (listed.setIfInBounds i true) a w)->K' a w)->if Region.wanted o (yielded ops a.tmps)=true then Oper.wp P o a w K' Q else K' (a.put o.dst undef) w)
 (hr:Region.ready md ops listed=[i]:=by decide+kernel) (ho:ops[i]?=some o:=by exact rfl):wpAnyH P md ops Q S (fuel+1) listed a w:=rdE i hr ho h
end
theorem DH {α:Type _}{xs:List α}{i:Nat}{x:α}:xs.toArray.setIfInBounds i x=(xs.set i x).toArray:=List.setIfInBounds_toArray _ _ _
theorem DI {α:Type _}{a b:α}{l:List α}:(a::l).set 0 b=b::l:=List.set_cons_zero
theorem DG {α:Type _}{a b:α}{l:List α}{n:Nat}:(a::l).set (n+1) b=a::l.set n b:=List.set_cons_succ
theorem Iv {α:Type _}{xs:List α}{i:Nat}:xs.toArray[i]?=xs[i]?:=List.getElem?_toArray
theorem Is {α:Type _}{a:α}{l:List α}:(a::l)[0]?=some a:=List.getElem?_cons_zero
theorem I6 {α:Type _}{a:α}{i:Nat}{l:List α}:(a::l)[i+1]?=l[i]?:=List.getElem?_cons_succ
theorem Ei {α:Type _}{xs:List α}{i:Nat}(h:i<xs.toArray.size):xs.toArray[i]=xs[i]'(by simpa using h):=List.getElem_toArray h
theorem Ee {α:Type _}{a:α}{l:List α}(h:0<(a::l).length):(a::l)[0]=a:=rfl
theorem Ef {α:Type _}{a:α}{l:List α}{i:Nat}(h:i+1<(a::l).length):(a::l)[i+1]=l[i]'(Nat.lt_of_succ_lt_succ h):=rfl
theorem I {p:Prop}(h:p):Go.RowKit.Hid p:=Go.Lib.hid h
theorem gE {α:Type _}{xs:Array α}{i:Nat}{b:α}(h:xs[i]?=some b):∃h:i<xs.size,xs[i]=b:=Array.getElem?_eq_some_iff.1 h
theorem gD {α:Type _}{l:List α}{i:Nat}{a:α}:l.getD i a=l[i]?.getD a:=List.getD_eq_getElem?_getD
theorem gG {α:Type _}{l:List α}{i:Nat}(h:i<l.length):l[i]?=some l[i]:=List.getElem?_eq_getElem h
theorem cI {w:World}{b:Nat}{cs:List Value}{t:TypeId}{fr:Nat×Nat}(h:w.heap[b]?=some (.cells cs.toArray t fr))(i:Nat){v:Value}(hv:cs[i]?=some v:=by exact rfl):w.cell? ⟨b,i,none⟩=some v:=by
 simp[World.cell?,h,hv]
theorem fI {w:World}{b:Nat}{cs:Array Value}{t:TypeId}(h:w.heap[b]?=some (.cells cs t (0,0)))(i:Nat):w.frozen? ⟨b,i,none⟩=false:=by
 simp[World.frozen?,h]
theorem On {α:Type _}{a b:α}{l:List α}:b∈a::b::l:= .tail _ (.head _)
theorem P4 {α:Type _}{a b c:α}{l:List α}:c∈a::b::c::l:= .tail _ (.tail _ (.head _))
theorem KQ {α:Type _}{a b c d:α}{l:List α}:d∈a::b::c::d::l:= .tail _ (.tail _ (.tail _ (.head _)))
theorem LY {α:Type _}{a b c d e:α}{l:List α}:e∈a::b::c::d::e::l:= .tail _ (.tail _ (.tail _ (.tail _ (.head _))))
theorem Sw {α:Type _}{a b c d e f:α}{l:List α}:f∈a::b::c::d::e::f::l:= .tail _ (.tail _ (.tail _ (.tail _ (.tail _ (.head _)))))
theorem Ss {α:Type _}{a b c d e f g:α}{l:List α}:g∈a::b::c::d::e::f::g::l:= .tail _ (.tail _ (.tail _ (.tail _ (.tail _ (.tail _ (.head _))))))
def gi {P:Program}{e:TypeId}{z:Option Value}{s b:Nat}(h:(P.info? e).map (λi=>(i.zero,i.size,i.bytes))=some (z,s,b)):TypeInfo:=(P.info? e).get (by cases q:P.info? e with|none=>(rw[q]at h;cases h)|some x=>rfl)
section
variable {P:Program}{e:TypeId}{z:Option Value}{s b:Nat}(h:(P.info? e).map (λi=>(i.zero,i.size,i.bytes))=some (z,s,b))
theorem g0:P.info? e=some (gi h):=by unfold gi;simp
theorem ai:(gi h).zero=z/\(gi h).size=s/\(gi h).bytes=b:=by
 have h2:=h;rw[g0 h]at h2;simp only[Option.map_some,Option.some.injEq,Prod.mk.injEq]at h2;exact h2
theorem g1:(gi h).zero=z:=(ai h).1
theorem g2:(gi h).size=s:=(ai h).2.1
theorem g3:(gi h).bytes=b:=(ai h).2.2
end
instance zI:Coe Int Value:=⟨λn=> .int .i64 n⟩
instance zU:Coe Unit Value:=⟨λ_=> .int .i64 0⟩
instance zN:Coe Nat Value:=⟨λn=> .int .i64 (n:Int)⟩
instance zBz:Coe Bool Value:=⟨λn=> .bool n⟩
structure ADt (b o:Nat)
def aD (b o:Nat):ADt b o:=⟨⟩
instance zBa {b o}:CoeOut (ADt b o) Addr:=⟨λ_=>⟨b,o,none⟩⟩
structure PTt (b:Nat)
def pT (b:Nat):PTt b:=⟨⟩
instance zBb {b}:CoeOut (PTt b) Value:=⟨λ_=> .pointer (some ⟨b,0,none⟩)⟩
structure SLt (b o n c:Nat)
def BG (b o n c:Nat):SLt b o n c:=⟨⟩
instance zBc {b o n c}:CoeOut (SLt b o n c) Value:=⟨λ_=> .slice (some ⟨b,o,none⟩) n c⟩
structure SNt
def sN:SNt:=⟨⟩
instance zBd:CoeOut SNt Value:=⟨λ_=> .slice none 0 0⟩
structure NIt (n:Int)
def O (n:Int):NIt n:=⟨⟩
instance zBe {n}:CoeOut (NIt n) Value:=⟨λ_=> .int .i64 n⟩
structure SOt (n:Value)
def SY (n:Value):SOt n:=⟨⟩
instance zBf {n}:CoeOut (SOt n) (Option Value):=⟨λ_=>some n⟩
structure ONt (w:World)(b o:Nat)(v:Value)
def V (w:World)(b o:Nat)(v:Value):ONt w b o v:=⟨⟩
instance zBg {w b o v}:CoeOut (ONt w b o v) Prop:=⟨λ_=>w.cell? ⟨b,o,none⟩=some v⟩
instance zBh {w b o v}:CoeSort (ONt w b o v) Prop:=⟨λ_=>w.cell? ⟨b,o,none⟩=some v⟩
structure CLt (c:Array Value)(t:TypeId)
def Y (c:Array Value)(t:TypeId):CLt c t:=⟨⟩
instance zBj {c t}:CoeOut (CLt c t) Obj:=⟨λ_=> .cells c t⟩
structure SVt (a:Option Addr)(n c:Nat)
def AR (a:Option Addr)(n c:Nat):SVt a n c:=⟨⟩
instance zBk {a n c}:CoeOut (SVt a n c) Value:=⟨λ_=> .slice a n c⟩
structure REt (v:Value)
def BA (v:Value):REt v:=⟨⟩
instance zBl {v}:CoeOut (REt v) Ending:=⟨λ_=> .returned v⟩
structure BXt (w:World)(b:Nat)(c:Array Value)(t:TypeId)
def BR (w:World)(b:Nat)(c:Array Value)(t:TypeId):BXt w b c t:=⟨⟩
instance zBm {w b c t}:CoeOut (BXt w b c t) Prop:=⟨λ_=>w.heap[b]?=some (.cells c t (0,0))⟩
instance zBn {w b c t}:CoeSort (BXt w b c t) Prop:=⟨λ_=>w.heap[b]?=some (.cells c t (0,0))⟩
structure HSt (w w':World)(b:Nat)
def hSM (w w':World)(b:Nat):HSt w w' b:=⟨⟩
instance zBo {w w' b}:CoeOut (HSt w w' b) Prop:=⟨λ_=>w.heap[b]?=w'.heap[b]?⟩
instance zBp {w w' b}:CoeSort (HSt w w' b) Prop:=⟨λ_=>w.heap[b]?=w'.heap[b]?⟩
structure CAt (n:FuncId)(a:Array Value)(w:World)(R:Ending->World->Prop)
def cAL (n:FuncId)(a:Array Value)(w:World)(R:Ending->World->Prop):CAt n a w R:=⟨⟩
instance zBq {n a w R}:CoeOut (CAt n a w R) Prop:=⟨λ_=>Calls Tryz.prog n a w R⟩
instance zBr {n a w R}:CoeSort (CAt n a w R) Prop:=⟨λ_=>Calls Tryz.prog n a w R⟩
instance zBs:CoeOut World Nat:=⟨λw=>w.heap.size⟩
theorem gX {α:Sort _}(a:α):∃x,a=x:=⟨a,rfl⟩
structure ZAt
def GL:ZAt:=⟨⟩
instance zBt:CoeOut ZAt (Array Value):=⟨λ_=> #[(),(),(),(),(),(),(),(),(),(),(),(),(),(),(),(),(),(),(),(),(),(),()]⟩
structure KAt (a b c d e f n g h i j:Value)
def DQ (a b c d e f n g h i j:Value):KAt a b c d e f n g h i j:=⟨⟩
instance zBu {a b c d e f n g h i j}:CoeOut (KAt a b c d e f n g h i j) (Array Value):=⟨λ_=> #[O 1,a,O 1,b,c,d,e,f,a,n,O 1,g,h,b,(),(),(),(),(),(),(),i,j]⟩
structure KLt (a b c d e f n g h i j:Value)
def gh (a b c d e f n g h i j:Value):KLt a b c d e f n g h i j:=⟨⟩
instance zBv {a b c d e f n g h i j}:CoeOut (KLt a b c d e f n g h i j) (List Value):=⟨λ_=>[O 1,a,O 1,b,c,d,e,f,a,n,O 1,g,h,b,(),(),(),(),(),(),(),i,j]⟩
structure RAt (k a b c n:Value)
def FC (k a b c n:Value):RAt k a b c n:=⟨⟩
instance zBw {k a b c n}:CoeOut (RAt k a b c n) (Array Value):=⟨λ_=> #[O 7,(),(),(),k,a,b,c,(),(),(),(),(),(),k,(),(),n,a,b,c,(),()]⟩
structure RLt (k a b c n:Value)
def iV (k a b c n:Value):RLt k a b c n:=⟨⟩
instance zBx {k a b c n}:CoeOut (RLt k a b c n) (List Value):=⟨λ_=>[O 7,(),(),(),k,a,b,c,(),(),(),(),(),(),k,(),(),n,a,b,c,(),()]⟩
structure AAf
def tyW:AAf:=⟨⟩
instance zCW:CoeSort AAf Type:=⟨λ_=>World⟩
structure AAO
def tyV:AAO:=⟨⟩
instance zCV:CoeSort AAO Type:=⟨λ_=>Value⟩
structure AAE
def tyN:AAE:=⟨⟩
instance zCN:CoeSort AAE Type:=⟨λ_=>Nat⟩
structure AAT
def tyI:AAT:=⟨⟩
instance zCI:CoeSort AAT Type:=⟨λ_=>Int⟩
structure AAh
def tyA:AAh:=⟨⟩
instance zCA:CoeSort AAh Type:=⟨λ_=>Option Addr⟩
structure AAd
def tyL:AAd:=⟨⟩
instance zCL:CoeSort AAd Type:=⟨λ_=>List Int⟩
theorem J {p:Prop}(h:p:=by omega):p:=h
theorem AQ {p:Prop}(h:p:=by decide):p:=h
theorem SU {p:Prop}(h:p:=by decide+kernel):p:=h
theorem Ay {p:Prop}(h:p:=by kernel_rfl):p:=h
theorem Az {p:Prop}(h:p:=by simp):p:=h
theorem Cw {p q:Prop}(h:p)(k:p->q:=by(intro h;simpa using h)):q:=k h
abbrev vE:= @List.take_add_one
abbrev pI:= @Option.toList_some
abbrev Y8:= @List.flatMap_append
abbrev Gx:= @List.length_append
abbrev A9:= @Nat.le_refl
abbrev CR:= @Nat.lt_or_ge
abbrev DB:= @Nat.le_trans
abbrev qz:= @Nat.le_add_right
abbrev zz8:= @Option.toList_none
abbrev Jc:= @List.append_nil
abbrev Be:= @List.getElem?_eq_some_iff
abbrev AAc:= @List.getElem_cons_drop
abbrev vY:= @List.take_append_drop
abbrev Gb:= @List.getElem?_append_right
abbrev VN:= @Nat.sub_self
abbrev It:= @List.flatMap_cons
abbrev IN:= @List.length_singleton
abbrev PL:= @List.nil_append
abbrev Kk:= @List.getElem?_cons_succ
abbrev aE:= @List.take_succ_cons
abbrev BP:= @Nat.le_of_lt
abbrev BY:= @List.getElem?_map
abbrev Dj:= @List.getElem_of_mem
abbrev Fq:= @Nat.lt_trichotomy
abbrev Qy:= @List.length_cons
abbrev Rn:= @List.length_nil
abbrev KD:= @List.getElem_mem
abbrev AK:= @if_pos
abbrev AI:= @if_neg
abbrev Ca:= @List.length_map
abbrev DV:= @Nat.zero_le
abbrev aI:= @Int.mul_nonneg
abbrev vw:= @Int.mul_le_mul
abbrev qm:= @Int.le_trans
abbrev rH:= @Int.tmod_eq_emod_of_nonneg
abbrev Ah:= @Go.heap_alloc_new
abbrev Cy:= @Go.World.size_alloc
abbrev Se:= @Go.setRow_heap
abbrev N9:= @Nat.le_succ
abbrev RH:= @Go.wpList_store_row
abbrev Gz:= @Go.bodyPost_ret
abbrev VA:= @List.getElem?_eq_none
abbrev Gl:= @Int.toNat_natCast
abbrev IC:= @List.getElem?_append_left
abbrev AAZ:= @List.getElem?_replicate
abbrev Us:= @List.getElem?_take
abbrev Fi:= @decide_eq_true
abbrev DF:= @decide_eq_false
abbrev Ol:= @bne_iff_ne
abbrev Dy:= @beq_eq_false_iff_ne
abbrev Uu:= @Nat.not_lt_zero
abbrev Wl:= @And.left
abbrev fd:= @Array.mem_of_getElem?
abbrev Ke:= @if_true
abbrev Zl:= @Go.step_lone_go
abbrev DJ:= @congrArg
abbrev iX:= @Go.Steps.trans
abbrev pH:= @if_false
abbrev qa:= @Bool.false_eq_true
abbrev JP:= @Go.RowKit.Below.heap_alloc
abbrev Dt:= @Option.some.injEq
abbrev Jq:= @Nat.le_of_eq
abbrev BF:= @Go.RowKit.Below.heap_setCell
abbrev Xc:= @Go.Obj.cells.injEq
abbrev qs:= @Go.results_none
abbrev P9:= @and_true
abbrev Ro:= @Nat.lt_of_le_of_lt
abbrev BJ:= @List.mem_cons
abbrev Bq:= @List.mem_singleton
abbrev Gf:= @List.map_cons
abbrev Jt:= @List.append_assoc
abbrev vW:= @funext
abbrev Uq:= @List.length_range
abbrev qh:= @List.getElem_range
abbrev fa:= @List.size_toArray
abbrev jn:= @Array.replicate_succ
abbrev lW:= @Array.replicate_zero
abbrev kQ:= @List.push_toArray
abbrev ld:= @List.append_toArray
abbrev ak:= @List.cons_append
abbrev vS:= @Go.wpAny_of_held
abbrev kM:= @List.drop_of_length_le
abbrev B5:= @Nat.lt_of_lt_of_le
abbrev Fh:= @Bool.and_eq_true
abbrev I7:= @Nat.lt_succ_self
abbrev LF:= @List.mem_append_right
abbrev P3:= @List.mem_append_left
abbrev ey:= @Prod.ext
abbrev mN:= @Nat.succ_mul
abbrev MI:= @Go.Value.slice.injEq
abbrev Dw:= @Nat.zero_add
abbrev VZ:= @Go.heap_setCell_same
abbrev Hx:= @Go.RowKit.Below.refl
abbrev RR:= @Nat.zero_mul
abbrev LB:= @Nat.add_zero
abbrev Ar:= @Go.cell_of_row
abbrev Qp:= @List.getElem?_range
abbrev I2:= @List.filter_cons_of_pos
abbrev Gc:= @List.getElem?_cons_zero
abbrev Kt:= @List.filter_eq_nil_iff
abbrev FY:= @List.filter_cons_of_neg
abbrev mU:= @List.filter_eq_self
abbrev MO:= @Nat.mul_le_mul_right
abbrev Nw:= @Nat.add_mul
abbrev MZ:= @Nat.one_mul
abbrev Fc:= @decide_eq_true_eq
abbrev Dz:= @List.mem_range
abbrev Cg:= @Classical.choose_spec
abbrev WY:= @List.map_map
abbrev Db:= @List.mem_filter
abbrev IV:= @List.filter_append
abbrev EL:= @Nat.lt_irrefl
abbrev mW:= @List.take_succ_eq_append_getElem
abbrev cC:= @List.foldl_append
abbrev kY:= @List.take_zero
abbrev UI:= @Nat.le_succ_of_le
abbrev Cs:= @List.mem_append
abbrev Ye:= @Nat.min_eq_left
abbrev Ni:= @List.take_of_length_le
abbrev IR:= @List.take_length
abbrev C5:= @Go.RowKit.Below.setCell
abbrev Il:= @of_decide_eq_true
abbrev lj:= @of_decide_eq_false
abbrev Br:= @Go.wp_region_held_drew
abbrev Dn:= @Go.wpAnyH_ready
abbrev BU:= @Go.AllReadyH.cons
abbrev Dp:= @Go.AllReadyH.nil
abbrev CN:= @Go.wpAnyH_done
abbrev Ie:= @List.length_take
abbrev Hl:= @Go.wpList_load_row
abbrev CX:= @Go.World.ownsRow.lt
abbrev GV:= @Go.results_cell_row
abbrev jk:= @List.map_eq_nil_iff
abbrev IG:= @dif_pos
abbrev FZ:= @List.mem_flatMap
abbrev TQ:= @Int.mul_le_mul_of_nonneg_right
abbrev BI:= @List.mem_of_getElem?
abbrev In:= @Int.le_refl
abbrev Cz:= @Ne.symm
abbrev El:= @Option.some.inj
abbrev Pf:= @Nat.eq_zero_or_pos
abbrev MQ:= @List.range_succ
abbrev Po:= @List.filterMap_append
abbrev tU:= @List.mem_of_find?_eq_some
abbrev DL:= @Go.RowKit.Below.trans
abbrev bo:= @Go.wpList_load_mid
abbrev tN:= @Go.World.cell?_alloc_at
abbrev KX:= @Go.RowKit.Below.mono
abbrev TE:= @Nat.le_mul_of_pos_right
abbrev tX:= @List.take_append_of_le_length
abbrev LZ:= @Nat.mul_le_mul
abbrev Kz:= @List.getElem?_toArray
abbrev Gi:= @List.getElem_toArray
abbrev Gg:= @List.getElem_cons_succ
abbrev GX:= @List.getElem_cons_zero
abbrev D4:= @Go.frozen_of_row
abbrev JC:= @Go.WideShapes.add_plain
abbrev bd:= @Bool.and_false
abbrev jr:= @Bool.false_and
abbrev RU:= @Go.setRow_other
abbrev Cd:= @List.mem_map
abbrev lH:= @List.nodup_append
abbrev tt:= @Nat.div_lt_iff_lt_mul
abbrev Tb:= @Nat.two_pow_pos
abbrev Ww:= @Nat.pow_add
abbrev Q8:= @List.cons.injEq
abbrev lU:= @Go.World.cell?_spot
abbrev WF:= @Go.DataW.trod_int
abbrev Gu:= @List.map_append
abbrev l7:= @List.getElem?_take_of_lt
abbrev Nc:= @List.nodup_cons
abbrev kV:= @List.all_append
abbrev bu:= @List.mem_filterMap
abbrev Dh:= @List.filterMap_cons
abbrev kH:= @Nat.lt_trans
abbrev Rz:= @Int.zero_add
abbrev Yh:= @Nat.le_mul_of_pos_left
abbrev kC:= @List.mem_cons_of_mem
abbrev XD:= @Int.add_zero
abbrev cj:= @Array.getElem?_eq_getElem
abbrev tH:= @List.length_take_le
abbrev XZ:= @Int.emod_nonneg
abbrev Yi:= @Int.emod_lt_of_pos
abbrev dE:= @Nat.mul_one
abbrev jh:= @List.pairwise_iff_getElem
abbrev mM:= @List.ext_getElem
abbrev dC:= @List.getElem_map
abbrev Ek:= @Go.World.cell?_setCell_same
abbrev Ck:= @Go.World.cell?_setCell_other
abbrev tZ:= @List.flatMap_eq_nil_iff
abbrev TR:= @Classical.byContradiction
abbrev l9:= @Array.getElem?_modify
abbrev tW:= @Go.World.ownsRow.cells
abbrev Ts:= @List.all_eq_true
abbrev Xb:= @beq_iff_eq
abbrev Tz:= @Nat.succ_ne_zero
abbrev jm:= @Bool.false_or
abbrev tY:= @Bool.not_eq_true'
abbrev XV:= @Go.World.cell?_of_block
abbrev bX:= @List.eq_nil_of_length_eq_zero
abbrev YN:= @Go.World.ownsRow_nil
abbrev XE:= @List.length_replicate
abbrev bc:= @Prod.mk.injEq
abbrev AAM:= @Go.wpAnyH_take
abbrev AAA:= @List.setIfInBounds_toArray
abbrev AAF:= @Array.getElem?_eq_some_iff
abbrev dR:= @Bool.eq_iff_iff
abbrev jx:= @List.map_nil
abbrev dT:= @true_and
abbrev kA:= @List.not_mem_nil
abbrev tR:= @List.getElem?_zipIdx
abbrev jo:= @List.length_drop
abbrev cw:= @Nat.pow_succ
abbrev WM:= @Nat.div_div_eq_div_mul
theorem getD_lt {l:tyL}{k:tyN}(h:k<l.length):l.getD k 0=l[k]:=by
 rw[gD,gG h];rfl
theorem AJ {w:tyW}{b o:tyN}{v:tyV}(h:V w b o v):b<w.heap.size:=by
 unfold World.cell? at h;cases hh:w.heap[b]? with
 |none=>simp[hh]at h
 |some x=>exact(gE hh).1
def Bl (l:tyL):Nat->Value:=λk=>O (l.getD k 0)
def Row (w:tyW)(A:tyA)(n:tyN)(f:Nat->Value):Prop:=
 ∀k,k<n->∃b off,A=some ⟨b,off,none⟩/\V w b (off+k) (f k)
theorem Row.below {w w':tyW}{A:tyA}{n:tyN}{f:Nat->Value}(h:Row w A n f)(hb:Below w.heap.size w w'):Row w' A n f:=λk hk=>by
 obtain⟨b,off,e,hc⟩:=h k hk;exact⟨b,off,e,(hb.cell (p:=aD b (off+k)) (AJ hc)).trans hc⟩
theorem Row.nil (w:tyW)(A:tyA)(f:Nat->Value):Row w A 0 f:=λk hk=>absurd hk J
theorem CQ (w:tyW)(news:List Value)(e:TypeId)(j:tyN)(u:tyV)(h:news[j]?=some u):(w.alloc (Y news.toArray e)).cell? ((⟨w.heap.size,0,none⟩:Addr).add j)=some u:=by
 have e1:(⟨w.heap.size,0,none⟩:Addr).add j=⟨w.heap.size,j,none⟩:=by
  unfold Addr.add;by_cases hj:j=0
  .subst hj;rfl
  .rw[AI hj];simp
 rw[e1,tN _ _ _ _ rfl];simpa using h
theorem grownBy_below {B:tyN}{w w':tyW}{row:Option Nat}(h:w.grownBy w' row)(hB:B<=w.heap.size)(hr:∀k,row=some k->B<=k):Below B w w':=
 (Hx B w).grown h hB hr
theorem DS {w:tyW}{B:tyN}{e:TypeId}{size n:tyN}{v:tyV}{xs:List Value}(h:w.ownsRow B e size v n xs):∀k,v.ownBlock=some k->B<=k:=λk hk=>(h.lt k hk).1
theorem Lq {w:tyW}{B n:tyN}{e:TypeId}{v:tyV}{xs:List Value}{f:Nat->Value}(h:w.ownsRow B e 1 v n xs)(hx:∀k,k<n->xs[k]?=some (f k)):
  ∃A c,v=AR A n c/\Row w A n f/\n<=c:=by
 rcases h.2 with⟨rfl,rfl⟩|⟨g,cap,cur,rfl,_,_,hc,_⟩
 .exact⟨none,0,rfl,Row.nil _ _ _,A9 _⟩
 .refine⟨_,cap,rfl,λk hk=>⟨g,0,rfl,?_⟩,hc⟩;rw[Dw,h.cellAt k J];exact hx k hk
theorem C3 (w:tyW)(B:tyN)(e:TypeId)(size:tyN):w.ownsRow B e size sN 0 []:=⟨Az,.inl ⟨rfl,rfl⟩⟩
theorem Er {l:tyL}{k:tyN}(hk:k<l.length):(l.map (Value.int .i64))[k]?=some (Bl l k):=by
 rw[BY,gG hk];unfold Bl;rw[getD_lt hk];rfl
def Up (w0 w:tyW):Prop:=Below w0.heap.size w0 w
theorem Up.refl (w:tyW):Up w w:=Hx _ _
theorem Up.trans {a b c:tyW}(h:Up a b)(k:Up b c):Up a c:=DL h (KX k h.size)
theorem Up.alloc {a b:tyW}(h:Up a b)(o:Obj):Up a (b.alloc o):=Below.alloc h h.size o
theorem Up.drewN {a b:tyW}(h:Up a b)(n:tyN):Up a (b.drewN n):=below_drewN h n
theorem Up.drew {a b:tyW}(h:Up a b):Up a b.drew:=Below.drew h
theorem Row.up {w w':tyW}{A:tyA}{n:tyN}{f:Nat->Value}(h:Row w A n f)(hb:Up w w'):Row w' A n f:=h.below hb
theorem Row.congr {w:tyW}{A:tyA}{n:tyN}{f g:Nat->Value}(h:Row w A n f)(hfg:∀k,k<n->f k=g k):Row w A n g:=λk hk=>by
 obtain⟨b,off,e,hc⟩:=h k hk;exact⟨b,off,e,by rw[hc,hfg k hk]⟩
theorem Ii {P:Program}{ops:Array Oper}{rest:List Oper}{o:Oper}{a:Act}{Q:Exit->Act->World->Prop}{w:tyW}{e:TypeId}{news:List Value}(hgd:o.guard=none)(s x:Operand)(t:TypeId)
  (ho:o.op= .call {callee:= .builtin .append,args:= #[s,x],argTypes:= #[t,t]})
  (B:tyN) (i:TypeInfo) (z:tyV) (size bytes:tyN) (ht:P.underlying t=some (.slice e)) (hi:P.info? e=some i) (hz:i.zero=some z)
  (hsize:i.size=size) (hby:i.bytes=bytes) (hzs:z.cells.size=size) (hsz:0<size)
  (v:tyV) (n:tyN) (xs:List Value) (hs:a.eval s=v) (hown:w.ownsRow B e size v n xs)
  (hx:a.eval x=BG w 0 1 1) (hl:news.length=size) (h1:∀u∈news,u.oneCell'=true)
  (hb1:0<bytes) (hbytes:(n+1)*bytes<=140737488355328) (hB:B<=w.heap.size)
  (h:∀v' w',w'.ownsRow B e size v' (n+1) (xs++news)->w.grownBy w' v.ownBlock->Below B w w'->wpList P ops Q rest (a.put o.dst v') w'):
  wpList P ops Q (o::rest) a (w.alloc (Y news.toArray e)):=by
 have h63:n+1<=maxLen:=by
  have:n+1<=(n+1)*bytes:=TE _ hb1;unfold maxLen;omega
 refine wpList_append_own (w.alloc (Y news.toArray e)) hgd s x t ho B e i z size bytes ht hi hz hsize hby hzs hsz v n xs hs (hown.alloc _) ⟨w.heap.size,0,none⟩ 1 1 news hx J (λj u hu=>CQ w news e j u hu) h1 h63 hbytes (by simp;omega) ?_;intro v' w' hown' hg _;have hg':w.grownBy w' v.ownBlock:=⟨hg.os,hg.tape,hg.output,DB Az hg.size,λk hk hne=>(hg.block k (by simp;omega) hne).trans (JP w _ k hk)⟩;exact h v' w' hown' hg' (grownBy_below hg' hB (DS hown))
end
section
abbrev AV:= @Up.refl
end
section
open Go.ChangeShapes Go.WideShapes Go.ChangeAt Go.RowKit
section
variable {H:Type}{enc:TypeId×Value->H}{P:Program}
theorem trodAll_length {w:tyW}{base:tyN}{sp:Nat->Bool}{held:Bool}:∀{ts:List TypeId} {vs:List Value} {ds:List (DataW H)} {ps:List MemPlace},
  DataW.TrodAll enc P w base sp held ts vs ds ps->ds.length=ts.length
 |[],_,_,_,h=>by obtain⟨_,rfl,_⟩:=trodAll_nil h;rfl
 |_::_,_,_,_,h=>by
  obtain⟨v,vs1,d,ds1,a,b,rfl,rfl,rfl,h1,h2⟩:=trodAll_cons h;simp[trodAll_length h2]
theorem KU {w:tyW}{sp:Nat->Bool}:∀{ns:List String} {gs:List (DataW H)} {ps:List MemPlace},DataW.TrodVars enc P w sp ns gs ps->gs.length=ns.length
 |[],[],_,_=>rfl
 |[],_::_,_,h=>h.elim
 |_::_,[],_,h=>h.elim
 |_::_,_::_,_,h=>by
  obtain⟨g,t,cs,fuel,p,q,h1,h2,h3,h4,hs,e⟩:=h;simp[KU hs]
theorem MT (hl:laidOutB P=true){W W':tyW}(hb:Below W.heap.size W W'):∀{ts:List TypeId} {vs:List Value} {ds:List (DataW H)} {ps:List MemPlace},
  (∀t∈ts,P.readableRec t=true/\t<P.types.size)->(∀x∈ps,x.block<W.heap.size)->DataW.TrodAll enc P W 0 (λ_=>true) true ts vs ds ps->
  DataW.TrodAll enc P W' 0 (λb=>decide (b<W.heap.size)) true ts vs ds ps
 |[],_,_,_,_,_,h=>by obtain⟨rfl,rfl,rfl⟩:=trodAll_nil h;exact trodAll_mk0
 |t::ts,_,_,_,hr,hp,h=>by
  obtain⟨v,vs1,d,ds1,a,b,rfl,rfl,rfl,h1,h2⟩:=trodAll_cons h;have ht:=hr t Az;exact trodAll_cons_mk (Below.trod hl ht.1 ht.2 h1 hb (λx hx=>hp x (by simp[hx]))) (MT hl hb (λt ht=>hr t (by simp[ht])) (λx hx=>hp x (by simp[hx])) h2)
theorem kO {f:Func}{s:ChangeSpec}{tb:TypeId}{W W':tyW}{args:Array Value}{ds gs:List (DataW H)}{before:List MemPlace}
  (hl:laidOutB P=true) (hread:∀t∈f.params.toList,P.readableRec t=true/\t<P.types.size) (hvr:varsRowed P s.vars=true)
  (hrt:f.resultTypes= #[tb]) (htb:P.underlying tb=some .bool)
  (hs:∀(ds gs:List (DataW H)),ds.length=f.params.toList.length->gs.length=s.vars.length->(s.fn H (ds++gs)).results=[.lit (.bool true)]/\(s.fn H (ds++gs)).args=ds/\(s.fn H (ds++gs)).vars=gs)
  (hW:DataW.Whole enc P f.params.toList s.vars false W args.toList ds gs before) (hb:Below W.heap.size W W'):
  s.post enc P f false true false false W args true W':=by
 have hlt:∀p∈before,p.block<W.heap.size:=λp hp=>hW.lt p hp
 have hW0:=hW;obtain⟨p,q,hA,hV,rfl,_,_⟩:=hW;obtain⟨e1,e2,e3⟩:=hs ds gs (trodAll_length hA) (KU hV);refine⟨ds,gs,p++q,[],p,q,hW0,?_,?_,?_,?_,λh=>by cases h⟩
 .rw[e1,hrt];exact trodAll_mk1 (shut_bool htb true)
 .rw[e2];exact MT hl hb hread (λx hx=>hlt x (by simp[hx])) hA
 .rw[e3];exact Below.trodVars hl hb hvr hV
 .refine World.keptBut_mono (λx hx=>⟨hx,Or.inr ?_⟩) (hb.frame (· ∈p++q));simpa using hx
end
section
variable {H:Type}{enc:TypeId×Value->H}{P:Program}{w:tyW}
end
theorem aG {H:Type}{enc:TypeId×Value->H}{C:Checked}{os:Os}{f:FuncId}{fn:Func}{s:ChangeSpec}{conds:List PathCond}{tb:TypeId}
  (own:ownKnob C.prog.godebug=none) (started:os.Started) (noInit:C.prog.inits.idxOf? f=none) (hfn:C.prog.funcs[f]?=some fn)
  (witness:∃(w:tyW) (tape:Tape) (i:Input),w.os=os/\(w.forCall tape i).Shaped C.prog/\i.vars=[]/\Input.okWide C.prog (w.forCall tape i) .any w.heap.size f i/\
   s.pre6 enc C.prog fn conds false (w.forCall tape i).memory i.args/\({}:Assume).holds C.prog (lone (Frame.enter C.prog f i.args .normal) [] (w.forCall tape i)))
  (hl:laidOutB C.prog=true) (hread:∀t∈fn.params.toList,C.prog.readableRec t=true/\t<C.prog.types.size) (hvr:varsRowed C.prog s.vars=true)
  (hrt:fn.resultTypes= #[tb]) (htb:C.prog.underlying tb=some .bool)
  (hs:∀(ds gs:List (DataW H)),ds.length=fn.params.toList.length->gs.length=s.vars.length->(s.fn H (ds++gs)).results=[.lit (.bool true)]/\(s.fn H (ds++gs)).args=ds/\(s.fn H (ds++gs)).vars=gs)
  (contract:∀(W:tyW) (base:tyN) (args:Array Value) (ds gs:List (DataW H)) (before:List MemPlace),
   (∀(j:tyN) t v,fn.params[j]?=some t->args[j]?=some v->Value.okWide C.prog W .any base t v)->
   DataW.Whole enc C.prog fn.params.toList s.vars false W args.toList ds gs before->
   (DataW.weightsEach C.prog (fn.params.toList++s.plain.varTypes C.prog) (ds++gs)).all (· <=reachBytes)=true->
   Calls C.prog f args W λe W'=>e=BA true/\Below W.heap.size W W'):
  ReturnsInHanded {} C os f .any (s.pre6 enc C.prog fn conds false) (s.post enc C.prog fn false true false false):=by
 refine returnsInHanded_of_change_sized own started noInit hfn witness ?_;intro W base args ds gs before hval hW _ hsz _;exact(contract W base args ds gs before hval hW hsz).mono λe W' ⟨he,hb⟩=>⟨_,he,kO hl hread hvr hrt htb hs hW hb⟩
end
section
open Go.RowKit
theorem JX {P:Program}{ops:Array Oper}{rest:List Oper}{o:Oper}{a:Act}{Q:Exit->Act->World->Prop}{w:tyW}(hgd:o.guard=none)(s x:Operand)(t:TypeId)
  (ho:o.op= .call {callee:= .builtin .append,args:= #[s,x],argTypes:= #[t,t]})
  (B:tyN) (e:TypeId) (i:TypeInfo) (z:tyV) (bytes:tyN) (ht:P.underlying t=some (.slice e)) (hi:P.info? e=some i) (hz:i.zero=some z)
  (hsize:i.size=1) (hby:i.bytes=bytes) (hzs:z.cells.size=1)
  (v:tyV) (n:tyN) (xs:List Value) (hs:a.eval s=v) (hown:w.ownsRow B e 1 v n xs)
  (A:tyA) (m c:tyN) (f:Nat->Value) (hx:a.eval x=AR A m c) (hA:A=none->c=0) (hr:Row w A m f) (h1:∀u∈(List.range m).map f,u.oneCell'=true)
  (hb1:0<bytes) (hbytes:(n+m)*bytes<=140737488355328) (hB:B<=w.heap.size)
  (h:∀v' w',w'.ownsRow B e 1 v' (n+m) (xs++(List.range m).map f)->w.grownBy w' v.ownBlock->Below B w w'->wpList P ops Q rest (a.put o.dst v') w'):
  wpList P ops Q (o::rest) a w:=by
 have h63:n+m<=maxLen:=by
  have:n+m<=(n+m)*bytes:=TE _ hb1;unfold maxLen;omega
 cases A with
 |none=>
  have hm:m=0:=by
   rcases Pf m with h0|h0
   .exact h0
   .obtain⟨b,off,he,_⟩:=hr 0 h0;cases he
  have hc:=hA rfl;subst hm;subst hc;refine wpList_append_own_none hgd s x t ho B e i 1 ht hi v n xs hs hown hx ?_;exact h v w (Cw hown) (World.grownBy.refl w _) (Hx _ _)
 |some ad=>
  refine wpList_append_own w hgd s x t ho B e i z 1 bytes ht hi hz hsize hby hzs AQ v n xs hs hown ad m c ((List.range m).map f) hx Az ?_ h1 h63 hbytes hB ?_
  .intro j u hu
   have hj:j<m:=by
    have:=(Be.1 hu).1;simpa using this
   obtain⟨b,off,he,hc⟩:=hr j hj;injection he with he
   subst he;rw[JC,hc];rw[BY,Qp hj]at hu;exact hu
  .intro v' w' hown' hg _;exact h v' w' hown' hg (grownBy_below hg hB (DS hown))
theorem gR (w:tyW)(e:TypeId):(w.alloc (Y #[] e)).ownsRow w.heap.size e 1 (BG w 0 0 0) 0 []:=
 ⟨Az,.inr ⟨w.heap.size,0,#[],rfl,A9 _,Ah w _,A9 _,by unfold maxLen;decide,rfl,rfl⟩⟩
end
section
open Go.ChangeShapes Go.WideShapes Go.ChangeAt Go.RowKit
section
variable {H:Type}{enc:TypeId×Value->H}{P:Program}{w:tyW}
theorem tu {n:tyI}(h:(Lit.int .u8 n).wf=true):0<=n/\n<=255:=by simpa[Lit.wf,IntKind.min,IntKind.max,IntKind.signed,IntKind.bits]using h
end
end
section
def Aj (l:tyL):List Value:=l.map (Value.int .i64)
end
section
open Go.RowKit
structure TS where
 ans:List Int
 loc:List Int
 acc:List (Int×Int×Int)
 Bi:List (Int×Int)
def TS.asked (s:TS)(a:Int×Int×Int):TS:={s with acc:=s.acc++[a]}
def TS.DY (s:TS)(k:tyI):TS:={s with Bi:=s.Bi++[(k,(s.acc.length:tyI))]}
def TS.told (s:TS):Int:=s.ans.getD s.acc.length 0
def TS.get (s:TS)(at':tyI):Int:=if at'<0\/(s.loc.length:tyI)<=at' then 0 else s.loc.getD at'.toNat 0
def TS.set (s:TS)(at' v:tyI):TS:=
 if at'<0\/32768<=at' then s
 else if(s.loc.length:tyI)<=at' then(if v=0 then s else{s with loc:=(s.loc++List.replicate (at'.toNat+1-s.loc.length) 0).set at'.toNat v})
 else{s with loc:=s.loc.set at'.toNat v}
def DP (l:List (Int×Int×Int)):List Value:=l.flatMap λa=>[a.1,a.2.1,a.2.2]
def Dl (l:List (Int×Int)):List Value:=l.flatMap λa=>[a.1,a.2]
theorem Su (l m:List (Int×Int×Int)):DP (l++m)=DP l++DP m:=by unfold DP;rw[Y8]
theorem Sn (l m:List (Int×Int)):Dl (l++m)=Dl l++Dl m:=by unfold Dl;rw[Y8]
def SQ (B:tyN)(w:tyW)(k:tyN):Prop:=B<=k->∀cs e,BR w k cs e->e≠3/\e≠111/\e≠168
def MP (w:tyW)(g k:tyN):Prop:= ∃j v,(j=2\/j=3\/j=4)/\V w g j v/\v.ownBlock=some k
structure TK (g B:tyN)(w w':tyW):Prop where
 os:w'.os=w.os
 tape:w'.tape=w.tape
 output:w'.output=w.output
 size:w.heap.size<=w'.heap.size
 block:∀k,k<w.heap.size->k≠g->SQ B w k->hSM w' w k
 rows:g<w.heap.size->∀k,MP w' g k->MP w g k\/w.heap.size<=k
 keep:g<w.heap.size->∀k,k<w.heap.size->k≠g->¬MP w g k->hSM w' w k
theorem SQ.low {B k:tyN}{w:tyW}(h:k<B):SQ B w k:=λhB=>J
theorem SQ.keep {B k:tyN}{w w':tyW}(h:SQ B w k)(he:hSM w' w k):SQ B w' k:=λhB cs e hh=>h hB cs e (he▸hh)
theorem Ak {w w':tyW}{b o:tyN}(h:hSM w' w b):w'.cell? (aD b o)=w.cell? (aD b o):=by simp only[World.cell?,h]
theorem MP.same {w w':tyW}{g k:tyN}(h:MP w' g k)(e:hSM w' w g):MP w g k:=by
 obtain⟨j,v,h1,h2,h3⟩:=h;exact⟨j,v,h1,(Ak e).symm.trans h2,h3⟩
theorem TK.refl (g B:tyN)(w:tyW):TK g B w w:=⟨rfl,rfl,rfl,A9 _,λ_ _ _ _=>rfl,λ_ _ h=> .inl h,λ_ _ _ _ _=>rfl⟩
theorem TK.trans {g B:tyN}{a b c:tyW}(h:TK g B a b)(k:TK g B b c):TK g B a c:=
 ⟨k.os.trans h.os,k.tape.trans h.tape,k.output.trans h.output,DB h.size k.size,λi h1 h2 h3=>
   have e:=h.block i h1 h2 h3
   (k.block i (B5 h1 h.size) h2 (h3.keep e)).trans e,
  λhg i hi=>(k.rows (B5 hg h.size) i hi).elim (h.rows hg i) λq=> .inr (DB h.size q),
  λhg i h1 h2 h3=>(k.keep (B5 hg h.size) i (B5 h1 h.size) h2 λq=>(h.rows hg i q).elim h3 λq=>EL _ (B5 h1 q)).trans (h.keep hg i h1 h2 h3)⟩
theorem TK.Bp {g B:tyN}{a w:tyW}(h:Up a w):TK g B a w:=⟨h.os,h.tape,h.output,h.size,λk hk _ _=>h.block k hk,λhg k hk=> .inl (hk.same (h.block g hg)),λ_ k hk _ _=>h.block k hk⟩
theorem TK.drew {g B:tyN}{a w:tyW}(h:TK g B a w):TK g B a w.drew:=h.trans (TK.Bp (AV w).drew)
theorem TK.alloc {g B:tyN}{a w:tyW}(h:TK g B a w)(o:Obj):TK g B a (w.alloc o):=h.trans (TK.Bp ((AV w).alloc o))
theorem TK.setCell {g B:tyN}{a w:tyW}(h:TK g B a w){j:tyN}(u:tyV)(hj:j≠2/\j≠3/\j≠4:=by decide):TK g B a (w.setCell (aD g j) u):=
 h.trans ⟨rfl,rfl,rfl,Az,λk _ hne _=>BF w ⟨g,j,none⟩ u k hne,λ_ k ⟨i,v,h1,h2,h3⟩=> .inl ⟨i,v,h1,(Ck w ⟨g,j,none⟩ ⟨g,i,none⟩ u (by simp<;>omega)).symm.trans h2,h3⟩,
  λ_ k _ hne _=>BF w ⟨g,j,none⟩ u k hne⟩
theorem TK.pushed {g B:tyN}{a w w1:tyW}{e:TypeId}{size n:tyN}{v:tyV}{xs:List Value}(h:TK g B a w)(hgB:g<B)(hgs:g<w.heap.size)(hown:w.ownsRow B e size v n xs)(he:e=3\/e=111\/e=168)(hg:w.grownBy w1 v.ownBlock)
  {j:tyN} (hj:j=2\/j=3\/j=4) (hcv:V w g j v) {u:tyV} (hu:∀k,u.ownBlock=some k->v.ownBlock=some k\/w.heap.size<=k):TK g B a (w1.setCell (aD g j) u):=by
 have ho:∀k,v.ownBlock=some k->B<=k/\∃cur,BR w k cur e:=λk ek=>by
  rcases hown.2 with⟨rfl,_⟩|⟨g',cap,cur,rfl,hb,h2,_⟩
  .simp[Value.ownBlock]at ek
  .simp only[Value.ownBlock,Dt]at ek;subst ek;exact⟨hb,cur,h2⟩
 have hgg:hSM w1 w g:=hg.block g hgs λe=>by have:=(ho g e.symm).1;omega
 refine h.trans ⟨hg.os,hg.tape,hg.output,by simpa using hg.size,λk hk hne hf=>(BF w1 ⟨g,j,none⟩ u k hne).trans (hg.block k hk λek=>?_),λ_ k ⟨i,x,h1,h2,h3⟩=>?_,λ_ k hk hne hr=>(BF w1 ⟨g,j,none⟩ u k hne).trans (hg.block k hk λek=>hr ⟨j,v,hj,hcv,ek.symm⟩)⟩
 .obtain⟨hb,cur,h2⟩:=ho k ek.symm;have:=hf hb cur e h2;rcases he with rfl|rfl|rfl<;>simp at this
 .by_cases hij:i=j
  .subst hij;rw[Ek w1 ⟨g,i,none⟩ u ((Ak hgg).trans hcv)]at h2;cases h2
   exact(hu k h3).imp (λq=>⟨i,v,h1,hcv,q⟩) id
  .rw[Ck w1 ⟨g,j,none⟩ ⟨g,i,none⟩ u (by simp<;>omega),Ak hgg]at h2;exact .inl ⟨i,x,h1,h2,h3⟩
theorem TK.below {g B N:tyN}{a w:tyW}(h:TK g B a w)(hN:N<=B)(hg:N<=g)(hs:N<=a.heap.size):Below N a w:=
 ⟨h.os,h.tape,h.output,h.size,λk hk=>h.block k J J (SQ.low J)⟩
theorem Fm {w w':tyW}{b o:tyN}(h:hSM w' w b):w'.frozen? (aD b o)=w.frozen? (aD b o):=by simp only[World.frozen?,h]
structure A5 (w:tyW)(g B:tyN)(st:tyI)(s:TS):Prop where
 gB:g<B
 sz:B<=w.heap.size
 c0:V w g 0 st
 fz:∀j,w.frozen? (aD g j)=false
 ans:∃A c,V w g 1 (AR A s.ans.length c)/\Row w A s.ans.length (Bl s.ans)/\(∀b off,A=some ⟨b,off,none⟩->0<s.ans.length->b+3<=g)
 loc:∃v,V w g 2 v/\w.ownsRow B 3 1 v s.loc.length (Aj s.loc)
 acc:∃v,V w g 3 v/\w.ownsRow B 111 3 v s.acc.length (DP s.acc)
 Bi:∃v,V w g 4 v/\w.ownsRow B 168 2 v s.Bi.length (Dl s.Bi)
 la:s.acc.length<=s.ans.length+1
 lb:s.ans.length<=1000000
 ll:s.loc.length<=32768
theorem BQ {w w':tyW}{B e size n:tyN}{v:tyV}{xs:List Value}(h:w.ownsRow B e size v n xs)(hk:∀k cs,B<=k->BR w k cs e->hSM w' w k):w'.ownsRow B e size v n xs:=by
 rcases h.2 with⟨hv,hn⟩|⟨g,cap,cur,hv,hg,hh,hr⟩
 .exact⟨h.1,.inl ⟨hv,hn⟩⟩
 .exact⟨h.1,.inr ⟨g,cap,cur,hv,hg,(hk g cur hg hh).trans hh,hr⟩⟩
theorem Ew {w w':tyW}{A:tyA}{n:tyN}{f:Nat->Value}(h:Row w A n f)(hk:∀b off,A=some ⟨b,off,none⟩->0<n->hSM w' w b):Row w' A n f:=λk hlt=>by
 obtain⟨b,off,e,hc⟩:=h k hlt;exact⟨b,off,e,(Ak (hk b off e J)).trans hc⟩
theorem EB {w w':tyW}{B e size n:tyN}{v:tyV}{xs:List Value}(h:w.ownsRow B e size v n xs)(hb:Up w w'):w'.ownsRow B e size v n xs:=BQ h λk cs _ hh=>hb.block k (gE hh).1
theorem A5.gs {w:tyW}{g B:tyN}{st:tyI}{s:TS}(h:A5 w g B st s):g<w.heap.size:=B5 h.gB h.sz
theorem Af {w:tyW}{B e size n:tyN}{v:tyV}{xs:List Value}(h:w.ownsRow B e size v n xs):∃A c,v=AR A n c/\n<=c/\c<=9223372036854775807:=by
 rcases h.2 with⟨rfl,rfl⟩|⟨g,cap,cur,rfl,_,_,h1,h2,_⟩
 .exact⟨none,0,rfl,A9 _,AQ⟩
 .exact⟨_,cap,rfl,h1,by unfold maxLen at h2;omega⟩
theorem A5.up {w w':tyW}{g B:tyN}{st:tyI}{s:TS}(h:A5 w g B st s)(hb:Up w w'):A5 w' g B st s:=by
 have hk:∀k,k<w.heap.size->hSM w' w k:=hb.block;have hg:=hk g (B5 h.gB h.sz);have hrow:∀e k cs,B<=k->BR w k cs e->hSM w' w k:=λe k cs _ hh=>hk k (gE hh).1
 refine⟨h.gB,DB h.sz hb.size,(Ak hg).trans h.c0,λj=>(Fm hg).trans (h.fz j),?_,?_,?_,?_,h.la,h.lb,h.ll⟩
 .obtain⟨A,c,h1,h2,h3⟩:=h.ans;exact⟨A,c,(Ak hg).trans h1,h2.up hb,h3⟩
 .obtain⟨v,h1,h2⟩:=h.loc;exact⟨v,(Ak hg).trans h1,BQ h2 (hrow _)⟩
 .obtain⟨v,h1,h2⟩:=h.acc;exact⟨v,(Ak hg).trans h1,BQ h2 (hrow _)⟩
 .obtain⟨v,h1,h2⟩:=h.Bi;exact⟨v,(Ak hg).trans h1,BQ h2 (hrow _)⟩
theorem A5.alloc {w:tyW}{g B:tyN}{st:tyI}{s:TS}(h:A5 w g B st s)(o:Obj):A5 (w.alloc o) g B st s:=h.up ((AV w).alloc o)
theorem A5.drew {w:tyW}{g B:tyN}{st:tyI}{s:TS}(h:A5 w g B st s):A5 w.drew g B st s:=h.up (AV w).drew
theorem A5.state {w:tyW}{g B:tyN}{st:tyI}{s:TS}(h:A5 w g B st s)(st':tyI):A5 (w.setCell (aD g 0) st') g B st' s:=by
 have hk:∀k,k≠g->hSM (w.setCell (aD g 0) st') w k:=λk hne=>BF w ⟨g,0,none⟩ _ k hne
 have hrow:∀e k cs,B<=k->BR w k cs e->hSM (w.setCell (aD g 0) st') w k:=λe k cs hB _=>hk k (by have:=h.gB;omega)
 refine⟨h.gB,by simpa using h.sz,Ek _ _ _ h.c0,λj=>by simpa[go_sem]using h.fz j,?_,?_,?_,?_,h.la,h.lb,h.ll⟩
 .obtain⟨A,c,h1,h2,h3⟩:=h.ans;exact⟨A,c,(Ck _ _ _ _ Az).trans h1,Ew h2 (λb off e hp=>hk b (by have:=h3 b off e hp;omega)),h3⟩
 .obtain⟨v,h1,h2⟩:=h.loc;exact⟨v,(Ck _ _ _ _ Az).trans h1,BQ h2 (hrow _)⟩
 .obtain⟨v,h1,h2⟩:=h.acc;exact⟨v,(Ck _ _ _ _ Az).trans h1,BQ h2 (hrow _)⟩
 .obtain⟨v,h1,h2⟩:=h.Bi;exact⟨v,(Ck _ _ _ _ Az).trans h1,BQ h2 (hrow _)⟩
theorem YE {w w1:tyW}{B e e' size n:tyN}{v:tyV}{xs:List Value}(hown:w.ownsRow B e size v n xs)(hg:w.grownBy w1 v.ownBlock)(hne:e'≠e):
  ∀k cs,B<=k->BR w k cs e'->hSM w1 w k:=λk cs _ hh=>by
 refine hg.block k (gE hh).1 ?_;intro he;rcases hown.2 with⟨rfl,_⟩|⟨g,cap,cur,rfl,_,h2,_⟩
 .simp[Value.ownBlock]at he
 .simp only[Value.ownBlock,Dt]at he;subst he;rw[h2]at hh;simp only[Dt,Xc]at hh;exact hne hh.2.1.symm
theorem A5.AAS {w w1:tyW}{g B:tyN}{st:tyI}{s:TS}(h:A5 w g B st s)(a:Int×Int×Int){v v1:tyV}(hc:V w g 3 v)(hla:s.acc.length<=s.ans.length)
  (hown:w.ownsRow B 111 3 v s.acc.length (DP s.acc)) (hg:w.grownBy w1 v.ownBlock) (hown1:w1.ownsRow B 111 3 v1 (s.acc.length+1) (DP (s.acc++[a]))):
  A5 (w1.setCell (aD g 3) v1) g B st (s.asked a):=by
 have hgB:=h.gB;have hge:∀k,v.ownBlock=some k->B<=k:=DS hown;have hlow:∀k,k<B->hSM w1 w k:=λk hk=>hg.block k (B5 hk h.sz) (λe=>by have:=hge k e.symm;omega)
 have hgg:=hlow g hgB;have hset:∀k,k≠g->hSM (w1.setCell (aD g 3) v1) w1 k:=λk hne=>BF w1 ⟨g,3,none⟩ _ k hne
 have hrow:∀e',e'≠111->∀k cs,B<=k->BR w k cs e'->hSM (w1.setCell (aD g 3) v1) w k:=λe' hne k cs hB hh=>(hset k J).trans (YE hown hg hne k cs hB hh)
 have hcell:∀j,j≠3->(w1.setCell (aD g 3) v1).cell? (aD g j)=w.cell? (aD g j):=λj hj=>(Ck _ _ _ _ (by simp<;>omega)).trans (Ak hgg)
 refine⟨hgB,DB h.sz (Cw hg.size),(hcell 0 AQ).trans h.c0,λj=>?_,?_,?_,?_,?_,by simp[TS.asked];omega,h.lb,h.ll⟩
 .have:=(Fm (o:=j) hgg).trans (h.fz j);simpa[go_sem]using this
 .obtain⟨A,c,h1,h2,h3⟩:=h.ans;exact⟨A,c,(hcell 1 AQ).trans h1,Ew h2 (λb off e hp=>(hset b (by have:=h3 b off e hp;omega)).trans (hlow b (by have:=h3 b off e hp;omega))),h3⟩
 .obtain⟨v2,h1,h2⟩:=h.loc;exact⟨v2,(hcell 2 AQ).trans h1,BQ h2 (hrow _ AQ)⟩
 .refine⟨v1,Ek _ _ _ ((Ak hgg).trans hc),?_⟩;have:=BQ (w':=w1.setCell (aD g 3) v1) hown1 (λk cs hB _=>hset k J);simpa[TS.asked]using this
 .obtain⟨v2,h1,h2⟩:=h.Bi;exact⟨v2,(hcell 4 AQ).trans h1,BQ h2 (hrow _ AQ)⟩
theorem A5.AAY {w w1:tyW}{g B:tyN}{st:tyI}{s:TS}(h:A5 w g B st s)(k0:tyI){v v1:tyV}(hc:V w g 4 v)
  (hown:w.ownsRow B 168 2 v s.Bi.length (Dl s.Bi)) (hg:w.grownBy w1 v.ownBlock) (hown1:w1.ownsRow B 168 2 v1 (s.Bi.length+1) (Dl (s.Bi++[(k0,(s.acc.length:tyI))]))):
  A5 (w1.setCell (aD g 4) v1) g B st (s.DY k0):=by
 have hgB:=h.gB;have hge:∀k,v.ownBlock=some k->B<=k:=DS hown;have hlow:∀k,k<B->hSM w1 w k:=λk hk=>hg.block k (B5 hk h.sz) (λe=>by have:=hge k e.symm;omega)
 have hgg:=hlow g hgB;have hset:∀k,k≠g->hSM (w1.setCell (aD g 4) v1) w1 k:=λk hne=>BF w1 ⟨g,4,none⟩ _ k hne
 have hrow:∀e',e'≠168->∀k cs,B<=k->BR w k cs e'->hSM (w1.setCell (aD g 4) v1) w k:=λe' hne k cs hB hh=>(hset k J).trans (YE hown hg hne k cs hB hh)
 have hcell:∀j,j≠4->(w1.setCell (aD g 4) v1).cell? (aD g j)=w.cell? (aD g j):=λj hj=>(Ck _ _ _ _ (by simp<;>omega)).trans (Ak hgg)
 refine⟨hgB,DB h.sz (Cw hg.size),(hcell 0 AQ).trans h.c0,λj=>?_,?_,?_,?_,?_,h.la,h.lb,h.ll⟩
 .have:=(Fm (o:=j) hgg).trans (h.fz j);simpa[go_sem]using this
 .obtain⟨A,c,h1,h2,h3⟩:=h.ans;exact⟨A,c,(hcell 1 AQ).trans h1,Ew h2 (λb off e hp=>(hset b (by have:=h3 b off e hp;omega)).trans (hlow b (by have:=h3 b off e hp;omega))),h3⟩
 .obtain⟨v2,h1,h2⟩:=h.loc;exact⟨v2,(hcell 2 AQ).trans h1,BQ h2 (hrow _ AQ)⟩
 .obtain⟨v2,h1,h2⟩:=h.acc;exact⟨v2,(hcell 3 AQ).trans h1,BQ h2 (hrow _ AQ)⟩
 .refine⟨v1,Ek _ _ _ ((Ak hgg).trans hc),?_⟩;have:=BQ (w':=w1.setCell (aD g 4) v1) hown1 (λk cs hB _=>hset k J);simpa[TS.DY]using this
theorem A5.AEp {w w1:tyW}{g B:tyN}{st:tyI}{s:TS}(h:A5 w g B st s)(l:tyL)(hl:l.length<=32768){v1:tyV}
  (hk:∀k,k<w.heap.size->(∀cs,B<=k->w.heap[k]?≠some (.cells cs 3 (0,0)))->hSM w1 w k) (hs:w.heap.size<=w1.heap.size) (hown1:w1.ownsRow B 3 1 v1 l.length (Aj l)):
  A5 (w1.setCell (aD g 2) v1) g B st {s with loc:=l}:=by
 have hgB:=h.gB;have hlow:∀k,k<B->hSM w1 w k:=λk hkB=>hk k (B5 hkB h.sz) (λcs hb=>J)
 have hgg:=hlow g hgB;have hset:∀k,k≠g->hSM (w1.setCell (aD g 2) v1) w1 k:=λk hne=>BF w1 ⟨g,2,none⟩ _ k hne
 have hrow:∀e',e'≠3->∀k cs,B<=k->BR w k cs e'->hSM (w1.setCell (aD g 2) v1) w k:=λe' hne k cs hB hh=>(hset k J).trans (hk k (gE hh).1 (λcs' _ h'=>by
  rw[hh]at h';simp only[Dt,Xc]at h'
  exact hne h'.2.1))
 have hcell:∀j,j≠2->(w1.setCell (aD g 2) v1).cell? (aD g j)=w.cell? (aD g j):=λj hj=>(Ck _ _ _ _ (by simp<;>omega)).trans (Ak hgg)
 refine⟨hgB,DB h.sz (Cw hs),(hcell 0 AQ).trans h.c0,λj=>?_,?_,?_,?_,?_,h.la,h.lb,hl⟩
 .have:=(Fm (o:=j) hgg).trans (h.fz j);simpa[go_sem]using this
 .obtain⟨A,c,h1,h2,h3⟩:=h.ans;exact⟨A,c,(hcell 1 AQ).trans h1,Ew h2 (λb off e hp=>(hset b (by have:=h3 b off e hp;omega)).trans (hlow b (by have:=h3 b off e hp;omega))),h3⟩
 .obtain⟨v2,h1,h2⟩:=h.loc;exact⟨v1,Ek _ _ _ ((Ak hgg).trans h1),BQ hown1 (λk cs hB _=>hset k J)⟩
 .obtain⟨v2,h1,h2⟩:=h.acc;exact⟨v2,(hcell 3 AQ).trans h1,BQ h2 (hrow _ AQ)⟩
 .obtain⟨v2,h1,h2⟩:=h.Bi;exact⟨v2,(hcell 4 AQ).trans h1,BQ h2 (hrow _ AQ)⟩
theorem Es (z:tyV)(hz:z.cells= #[z])(k:tyN):Builtin.zeroCells z.cells k=(List.replicate k z).toArray:=by
 unfold Builtin.zeroCells;rw[hz];apply Array.ext
 .simp
 .intro i h1 h2;simp[Nat.mod_one]
theorem Kx {P:Program}(w:tyW)(B:tyN)(t tn ty e:TypeId)(i:TypeInfo)(kq kn:IntKind)(ht:P.underlying t=some (.slice e))(htn:P.underlying tn=some (.int kn))(hi:P.info? e=some i)(hz:i.zero=SY ())
  (hsize:i.size=1) (hby:i.bytes=8) (v:tyV) (n:tyN) (xs:List Value) (hown:w.ownsRow B e 1 v n xs) (k:tyN) (h0:0<k) (hb:n+k<=1000000) (hB:B<=w.heap.size):
  ∃v' w',(Builtin.append_ #[t,tn] ty #[v,.int kq k]).run P w= .ok v' w'/\w'.ownsRow B e 1 v' (n+k) (xs++List.replicate k (.int .i64 0))/\w.grownBy w' v.ownBlock/\∀q,v'.ownBlock=some q->v.ownBlock=some q\/w.heap.size<=q:=by
 have hzc:(Value.int .i64 0).cells= #[.int .i64 0]:=rfl;have hlen:(xs++List.replicate k (Value.int .i64 0)).length=(n+k)*1:=by rw[Gx,hown.1,XE];omega
 have wG:xs.length=n:=by have:=hown.1;omega
 have grow:∀(base:tyA) (cap:tyN),cap<n+k->(Builtin.firstCells i.size n (AR base n cap)).run P w.drew= .ok xs.toArray w.drew->
   ∃v' w',(Builtin.append_ #[t,tn] ty #[AR base n cap,.int kq k]).run P w= .ok v' w'/\w'.ownsRow B e 1 v' (n+k) (xs++List.replicate k (.int .i64 0))/\(∀row,w.grownBy w' row)/\∀q,v'.ownBlock=some q->w.heap.size<=q:=by
  intro base cap hg hold;refine⟨_,_,Lib.run_append_grow_zeros w t tn ty e i _ kq kn ht htn hi hz base n cap xs hold k h0 J hg J (by rw[hby];omega) (by rw[hby];exact growslice_fits hg J),?_,?_⟩
  .have hge:=grownCap_ge w (n+k) cap e;have hcm:grownCap w (n+k) cap e<=maxLen:=grownCap_le_maxLen w (n+k) cap e (by unfold maxLen;omega);refine⟨hlen,.inr ⟨w.heap.size,_,_,rfl,hB,Ah w.drew _,hge,hcm,?_,?_⟩⟩
   .rw[Es _ hzc,Es _ hzc];simp[wG];omega
   .rw[Es _ hzc,Es _ hzc];simp only[Array.toList_append,<-hlen];exact List.take_left
  .refine⟨λrow=>⟨rfl,rfl,rfl,Az,λj hj _=>JP w.drew _ j hj⟩,λq e=>?_⟩;simp only[Value.ownBlock,Dt]at e;exact Jq e
 rcases hown.2 with⟨rfl,rfl⟩|⟨g,cap,cur,rfl,hbg,hg,hnc,hcm,hcs,htake⟩
 .have hx:xs=[]:=bX J;subst hx;obtain⟨v',w',h1,h2,h3,h4⟩:=grow none 0 J (by simp[Builtin.firstCells]);exact⟨v',w',h1,h2,h3 _,λq e=> .inr (h4 q e)⟩
 .by_cases hroom:n+k<=cap
  .have hw:IntKind.i64.wrap (k:tyI)=k:=by rw[IntKind.wrap_i64];omega
   have hneg:¬((k:tyI)<0):=J;have hk:k≠0:=J;have h48i:¬(281474976710656<(k:tyI)*(i.bytes:tyI)):=by rw[hby];omega
   have hst:=run_storeCells_at P g n e (List.replicate k ()) 0 cur w hg (by rw[XE,hcs];omega) (by intro u hu;rw[List.mem_replicate]at hu;rw[hu.2];rfl);simp only[LB]at hst;have hzr:Builtin.zeroCells #[Value.int .i64 0] k=(List.replicate k (Value.int .i64 0)).toArray:=Es _ hzc k;refine⟨BG g 0 (n+k) cap,w.setRow g (cur.toList.take n++List.replicate k (Value.int .i64 0)++cur.toList.drop (n+k)).toArray,?_,⟨hlen,.inr ⟨g,cap,_,rfl,hbg,Se w g cur _ e _ hg,hroom,hcm,?_,?_⟩⟩,⟨rfl,rfl,rfl,Az,λk _ hk=>RU w g k _ (λe=>hk (by simp[Value.ownBlock,e]))⟩,λq e=> .inl e⟩
   .simp[Builtin.append_,run_underlying ht,run_underlying htn,sizeOf,typeInfo,zeroValue,hi,hz,hsize,asInt,asIntOf,hw,hneg,hk,h48i,hroom,hzc,hzr,Addr.add_lit,hst]
   .simp only[fa,Gx,Ie,jo,Array.length_toList,XE];omega
   .rw[dE]at htake;have:(cur.toList.take n++List.replicate k (Value.int .i64 0)++cur.toList.drop (n+k)).toArray.toList=(xs++List.replicate k (Value.int .i64 0))++cur.toList.drop (n+k):=by rw[<-htake]
    rw[this,<-hlen];exact List.take_left
  .obtain⟨v',w',h1,h2,h3,h4⟩:=grow (some ⟨g,0,none⟩) cap J (run_firstCells_some (P:=P) w.drew i.size n ⟨g,0,none⟩ n cap xs (by rw[hsize,wG];omega) (by
    intro j u hu;have hj:=(Be.1 hu).1
    exact hown.cells (g:=g) rfl j u hu))
   exact⟨v',w',h1,h2,h3 _,λq e=> .inr (h4 q e)⟩
theorem NM {P:Program}{ops:Array Oper}{o:Oper}{a:Act}{w:tyW}{K:Act->World->Prop}{Q:Exit->Act->World->Prop}{E:Prop}(hgd:o.guard=none)(s x:Operand)(t tn:TypeId)
  (ho:o.op= .call {callee:= .builtin .append,args:= #[s,x],argTypes:= #[t,tn]})
  (B:tyN) (e:TypeId) (i:TypeInfo) (kq kn:IntKind) (ht:P.underlying t=some (.slice e)) (htn:P.underlying tn=some (.int kn)) (hi:P.info? e=some i) (hz:i.zero=SY ())
  (hsize:i.size=1) (hby:i.bytes=8) (v:tyV) (n:tyN) (xs:List Value) (hs:a.eval s=v) (hown:w.ownsRow B e 1 v n xs) (k:tyN) (hx:a.eval x= .int kq k) (h0:0<k) (hb:n+k<=1000000) (hB:B<=w.heap.size)
  (h:∀v' w',w'.ownsRow B e 1 v' (n+k) (xs++List.replicate k (.int .i64 0))->w.grownBy w' v.ownBlock->(∀q,v'.ownBlock=some q->v.ownBlock=some q\/w.heap.size<=q)->K (a.put o.dst v') w'):
  if Region.wanted o (yielded ops a.tmps)=true then Oper.wp P o a w K Q else E:=by
 have hw:Region.wanted o (yielded ops a.tmps)=true:=by simp[Region.wanted,hgd]
 rw[AK hw];obtain⟨v',w',hr,h2,h3,h4⟩:=Kx (P:=P) w B t tn o.type e i kq kn ht htn hi hz hsize hby v n xs hown k h0 hb hB;exact Lib.wp_append_run w s x t tn ho v (.int kq k) hs hx v' w' hr (h v' w' h2 h3 h4)
end
end Go.Proofs.YtpodgcpkccpnfaaGreat
