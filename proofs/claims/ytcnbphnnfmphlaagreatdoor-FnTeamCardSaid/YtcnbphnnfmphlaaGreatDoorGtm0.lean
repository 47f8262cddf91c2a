/- Texts of this proof. -/
import Derived.WalkKit
import Derived.ProofKit
import Derived.OpenShut
import Derived.ShutString
import Derived.Lib.Hide
import Derived.Deep.Draws
import Derived.Test.YtcnbphnnfmphlaaGreatDoorProg
namespace Go.Proofs.YtcnbphnnfmphlaaGreatDoor
open Bool renaming and_eq_true → Zc
open Go.Lib renaming hid → Z5
open Nat renaming le_trans → Zj
open Go.Proofs.Tryz
open Go.RowKit
set_option linter.unusedVariables false
set_option linter.unusedSimpArgs false
set_option maxHeartbeats 400000
set_option maxRecDepth 100000
variable{p:Addr}{h:Int}{B:Nat}{W w' w1:World}
structure AX where
 turn:Int
 x:Int
 y:Int
structure A7 where
 id:Int
 kind:Int
 AL:ByteArray
 Z00:ByteArray
 Af:AX
 Ao:Int
structure Entry where
 remove:Bool
 id:Int
 Bv:A7
structure Ae where
 Cr:Bool
 number:Int
 text:ByteArray
 sum:Int

def A7.cells(f:A7):List Value:=[.int .i64 f.id,.int .i64 f.kind,.string f.AL,.string f.Z00,.int .i64 f.Af.turn,.int .i64 f.Af.x,.int .i64 f.Af.y,.int .i64 f.Ao]
def Ae.cells(f:Ae):List Value:=[.bool f.Cr,.int .i64 f.number,.string f.text,.int .i64 f.sum]
def ZZ(s:ByteArray):List Value:=[.string s]
def pY(n:Int):List Value:=[.int .i64 n]

abbrev Qv(t x y:Int):Value:=.agg #[.int .i64 t,.int .i64 x,.int .i64 y]
abbrev Yx(id kind:Int)(fr Z00:ByteArray)(t x y wt:Int):Value:=.agg #[.int .i64 id,.int .i64 kind,.string fr,.string Z00,.int .i64 t,.int .i64 x,.int .i64 y,.int .i64 wt]
abbrev Ny(rm:Bool)(Bz:Int)(id kind:Int)(fr Z00:ByteArray)(t x y wt:Int):Value:=.agg #[.bool rm,.int .i64 Bz,.int .i64 id,.int .i64 kind,.string fr,.string Z00,.int .i64 t,.int .i64 x,.int .i64 y,.int .i64 wt]
abbrev Nz(Cr:Bool)(num:Int)(tx:ByteArray)(sum:Int):Value:=.agg #[.bool Cr,.int .i64 num,.string tx,.int .i64 sum]
abbrev LA(n:Int):Ending:=.returned (.int .i64 n)
abbrev QM(b:Bool):Ending:=.returned (.bool b)

theorem o_{p:Prop}(h:p:=by omega):p:=h
theorem s_{p:Prop}(h:p:=by simp):p:=h
theorem AR{p:Prop}(h:p:=by simp;omega):p:=h
theorem BC{p:Prop}(h:p:=by kernel_rfl):p:=h
theorem AO{p:Prop}(h:p:=by decide):p:=h
theorem PE{a b:Bool}(h:a=b):Ending.returned (.bool a)=QM b:=by rw[h]
theorem Ze{a w:World}(h:Below a.heap.size a w)(o:Obj):Below a.heap.size a (w.alloc o):=h.alloc h.size o
theorem Zg{a w:World}(h:Below a.heap.size a w)(k:Below w.heap.size w w'):Below a.heap.size a w':=h.trans (k.mono h.size)
theorem ZY{a w:World}(h:Below a.heap.size a w):Below a.heap.size a w.drew:=h.drew
theorem Qh{a w:World}(h:Below a.heap.size a w)(n:Nat):Below a.heap.size a (w.drewN n):=⟨h.os,h.tape,h.output,h.size,h.block⟩
theorem JD{a w:World}(h:Below a.heap.size a w:=by repeat(first|with_reducible exact Below.refl _ _|with_reducible refine Ze ?_ _|with_reducible refine ZY ?_|with_reducible refine Qh ?_ _)):Below a.heap.size a w:=h
theorem Dp{a w:World}(h:Below a.heap.size a w)(hp:a.heap.size<=p.block)(u:Value):Below a.heap.size a (w.setCell p u):=h.setCell hp u
theorem Mf(hb:Below W.heap.size W w1):(∀ b o,b<W.heap.size->w1.cell? ⟨b,o,none⟩=W.cell? ⟨b,o,none⟩)/\(∀ b o,b<W.heap.size->w1.frozen? ⟨b,o,none⟩=W.frozen? ⟨b,o,none⟩):=
 ⟨fun b o h=>hb.cell (p:=⟨b,o,none⟩) h,fun b o h=>hb.frozen (p:=⟨b,o,none⟩) h⟩
theorem LC{w:World}{o:Obj}(h:Below B (w.alloc o) w1):w.heap.size+1<=w1.heap.size:=by
 have:=h.size;simp at this;omega
theorem RX{w:World}{o o2:Obj}(h:Below B ((w.alloc o).alloc o2) w1):w.heap.size+2<=w1.heap.size:=by
 have:=h.size;simp at this;omega
theorem JT(hb:Below W.heap.size W w1)(g:Nat)(hg:g<W.heap.size):∀ o,w1.cell? ⟨g,o,none⟩=W.cell? ⟨g,o,none⟩:=fun o=>hb.cell (p:=⟨g,o,none⟩) hg
theorem Q6(hb:Below W.heap.size W w1)(g:Nat)(hg:g<W.heap.size):∀ o,w1.frozen? ⟨g,o,none⟩=W.frozen? ⟨g,o,none⟩:=fun o=>hb.frozen (p:=⟨g,o,none⟩) hg
theorem Y6{w:World}{v:Value}(h:w.cell? p=some v):p.block<w.heap.size:=by
 rcases Nat.lt_or_ge p.block w.heap.size with hlt|hge
 .exact hlt
 .simp[World.cell?,Array.getElem?_eq_none hge]at h
theorem Zm{a w:World}(h:Below a.heap.size a w){v:Value}(hc:a.cell? p=some v):w.cell? p=some v:=(h.cell (Y6 hc)).trans hc

def Row(w:World)(A:Option Addr)(n sz:Nat)(css:List (List Value)):Prop :=
 css.length=n/\∀ i cs,css[i]? = some cs->∃ g off,A=some ⟨g,off,none⟩/\∀ j v,cs[j]? = some v->w.cell? ⟨g,off+i*sz+j,none⟩=some v
abbrev Cy(w:World)(A:Option Addr)(n:Nat)(l:List A7):Prop:=Row w A n 8 (l.map A7.cells)
abbrev RowK(w:World)(A:Option Addr)(n:Nat)(l:List Ae):Prop:=Row w A n 4 (l.map Ae.cells)
abbrev D7(w:World)(A:Option Addr)(n:Nat)(l:List ByteArray):Prop:=Row w A n 1 (l.map ZZ)
abbrev Mh(w:World)(A:Option Addr)(n:Nat)(l:List Int):Prop:=Row w A n 1 (l.map pY)

theorem Row.below{w:World}{A:Option Addr}{n sz:Nat}{css:List (List Value)}(h:Row w A n sz css)(hb:Below w.heap.size w w'):Row w' A n sz css :=
 ⟨h.1,fun i cs hi=>by
  obtain⟨g,off,rfl,hc⟩:=h.2 i cs hi
  exact⟨g,off,rfl,fun j v hv=>Zm hb (hc j v hv)⟩⟩
theorem Row.len{α:Type}{w:World}{A:Option Addr}{n sz:Nat}{l:List α}{c:α->List Value}(h:Row w A n sz (l.map c)):Hid (l.length=n):=by
 have:=h.1;simpa [Hid]using this
theorem Row.at_{α:Type}{w:World}{A:Option Addr}{n sz:Nat}{l:List α}{c:α->List Value}(h:Row w A n sz (l.map c)){k:Nat}(hk:k<n):
  ∃ (f:α) (g off:Nat),Hid (l[k]? = some f)/\A=some ⟨g,off,none⟩/\∀ j v,(c f)[j]? = some v->w.cell? ⟨g,off+k*sz+j,none⟩=some v:=by
 have hl:l.length=n:=h.len;have hk':k<l.length:=by omega
 obtain⟨g,off,hA,hc⟩:=h.2 k (c l[k]) (by simp[hk']);exact⟨l[k],g,off,by simp[Hid,hk'],hA,hc⟩
theorem Cy.at_{w:World}{A:Option Addr}{n:Nat}{l:List A7}(h:Cy w A n l){k:Nat}(hk:k<n):
  ∃ (f:A7) (g off:Nat),Hid (l[k]? = some f)/\A=some ⟨g,off,none⟩/\w.cell? ⟨g,off+k*8,none⟩=some (.int .i64 f.id)/\w.cell? ⟨g,off+k*8+1,none⟩=some (.int .i64 f.kind)/\w.cell? ⟨g,off+k*8+2,none⟩=some (.string f.AL)/\w.cell? ⟨g,off+k*8+3,none⟩=some (.string f.Z00)/\
   w.cell? ⟨g,off+k*8+4,none⟩=some (.int .i64 f.Af.turn)/\w.cell? ⟨g,off+k*8+5,none⟩=some (.int .i64 f.Af.x)/\w.cell? ⟨g,off+k*8+6,none⟩=some (.int .i64 f.Af.y)/\w.cell? ⟨g,off+k*8+7,none⟩=some (.int .i64 f.Ao):=by
 obtain⟨f,g,off,hf,hA,hc⟩:=Row.at_ h hk;exact⟨f,g,off,hf,hA,hc 0 _ rfl,hc 1 _ rfl,hc 2 _ rfl,hc 3 _ rfl,hc 4 _ rfl,hc 5 _ rfl,hc 6 _ rfl,hc 7 _ rfl⟩
theorem RowK.at_{w:World}{A:Option Addr}{n:Nat}{l:List Ae}(h:RowK w A n l){k:Nat}(hk:k<n):
  ∃ (f:Ae) (g off:Nat),Hid (l[k]? = some f)/\A=some ⟨g,off,none⟩/\w.cell? ⟨g,off+k*4,none⟩=some (.bool f.Cr)/\w.cell? ⟨g,off+k*4+1,none⟩=some (.int .i64 f.number)/\w.cell? ⟨g,off+k*4+2,none⟩=some (.string f.text)/\w.cell? ⟨g,off+k*4+3,none⟩=some (.int .i64 f.sum):=by
 obtain⟨f,g,off,hf,hA,hc⟩:=Row.at_ h hk;exact⟨f,g,off,hf,hA,hc 0 _ rfl,hc 1 _ rfl,hc 2 _ rfl,hc 3 _ rfl⟩
theorem D7.at_{w:World}{A:Option Addr}{n:Nat}{l:List ByteArray}(h:D7 w A n l){k:Nat}(hk:k<n):
  ∃ (f:ByteArray) (g off:Nat),Hid (l[k]? = some f)/\A=some ⟨g,off,none⟩/\w.cell? ⟨g,off+k,none⟩=some (.string f):=by
 obtain⟨f,g,off,hf,hA,hc⟩:=Row.at_ h hk;exact⟨f,g,off,hf,hA,by simpa using hc 0 _ rfl⟩
theorem Mh.at_{w:World}{A:Option Addr}{n:Nat}{l:List Int}(h:Mh w A n l){k:Nat}(hk:k<n):
  ∃ (f:Int) (g off:Nat),Hid (l[k]? = some f)/\A=some ⟨g,off,none⟩/\w.cell? ⟨g,off+k,none⟩=some (.int .i64 f):=by
 obtain⟨f,g,off,hf,hA,hc⟩:=Row.at_ h hk;exact⟨f,g,off,hf,hA,by simpa using hc 0 _ rfl⟩

theorem QP{α:Type}{l:List α}{k:Nat}{f:α}(h:Hid (l[k]? = some f)):l.drop k=f::l.drop (k+1):=by
 have h':l[k]? = some f:=h;obtain⟨hk,rfl⟩:=List.getElem?_eq_some_iff.1 h';exact List.drop_eq_getElem_cons hk
theorem QK{α:Type}{l:List α}{n k:Nat}(h:Hid (l.length=n))(hk:¬ k<n):l.drop k=[]:=by
 have h':l.length=n:=h;exact List.drop_eq_nil_of_le o_

def A7.bulk(f:A7):Nat:=f.AL.size+f.Z00.size
def Ae.bulk(f:Ae):Nat:=f.text.size
def Y9{α:Type}(c:α->Nat):List α->Nat
 |[]=>0
 |x::l=>c x+Y9 c l
theorem XY{α:Type}{c:α->Nat}{x:α}:∀ {l:List α},x∈l->c x<=Y9 c l
 |y::l,h=>by
  rcases List.mem_cons.1 h with rfl|h
  .simp only[Y9];omega
  .have:=XY (c:=c) h;simp only[Y9];omega
def PG(b:UInt8)(first:Bool):Bool:=decide (97<=(b.toNat:Int)/\(b.toNat:Int)<=122)||(!first && decide (48<=(b.toNat:Int)/\(b.toNat:Int)<=57))
theorem pZ{b:UInt8}{first:Bool}(h:¬ PG b first=true):¬(97<=(b.toNat:Int)/\(b.toNat:Int)<=122)/\(first=false->¬(48<=(b.toNat:Int)/\(b.toNat:Int)<=57)):=by
 unfold PG at h;simp only[Bool.or_eq_true,Zc,Bool.not_eq_true',decide_eq_true_eq]at h;exact⟨fun k=>h (.inl k),fun hf k=>h (.inr ⟨hf,k⟩)⟩
def Od:List UInt8->Bool->Bool
 |[],_=>true
 |b::r,first=>PG b first && Od r false
def FH(s:ByteArray):Bool:=decide (1<=s.size/\s.size<=8) && Od s.data.toList true
def Dy(s:ByteArray)(k:Nat):Prop:=Od s.data.toList true=Od (s.data.toList.drop k) (k == 0)
theorem ZeU(s:ByteArray):Dy s 0:=rfl
theorem Uo(s:ByteArray){k:Nat}(hk:k<s.size):s.data.toList.drop k=s[k]:: s.data.toList.drop (k+1):=by
 have h:k<s.data.toList.length:=by simpa using hk
 rw[List.drop_eq_getElem_cons h];rfl
theorem Dy.next{s:ByteArray}{k:Nat}(h:Dy s k)(hk:k<s.size)(hb:PG s[k] (k == 0)=true):Dy s (k+1):=by
 unfold Dy at *
 rw[h,Uo s hk,Od,hb,Bool.true_and]
 rfl
theorem Dy.no{s:ByteArray}{k:Nat}(h:Dy s k)(hk:k<s.size)(hb:PG s[k] (k == 0)=false):FH s=false:=by
 unfold Dy at h;rw[FH,h,Uo s hk,Od,hb,Bool.false_and,Bool.and_false]
theorem Dy.yes{s:ByteArray}{k:Nat}(h:Dy s k)(hk:¬ k<s.size):FH s=decide (1<=s.size/\s.size<=8):=by
 unfold Dy at h;rw[FH,h,List.drop_eq_nil_of_le AR,Od,Bool.and_true]


theorem Jy(s:ByteArray)(w:World)(hs:s.size<=4194304):Calls prog 140 #[.string s] w fun e w'=>e=QM (FH s)/\w=w':=by
 by_cases h1:s.size<1∨8<s.size
 .have hno:Hid (FH s=false):=by
   simp only[Hid,FH,Bool.and_eq_false_iff,decide_eq_false_iff_not];omega
  go_enter func140,ntmps140;rcases h1 with h1|h1
  .go_wp2;go_ret;exact⟨by rw[hno.out];rfl,rfl⟩
  .have h2:1<=s.size:=by omega
   go_wp2;go_ret;exact⟨by rw[hno.out];rfl,rfl⟩
 have hs1:1<=s.size:=by omega
 have hs8:s.size<=8:=by omega
 clear h1;go_enter func140,ntmps140;go_wp2;go_loop [3,4,5] (fun i t u=>∃ (k:Nat),k<=s.size/\i=.int .i64 k/\Dy s k) (fun i _ _=>s.size-(intOf i).toNat)
 case atStart=>exact⟨0,o_,rfl,ZeU s⟩
 case round =>
  obtain⟨k,hk,rfl,hi⟩:=hrel;by_cases hlt:k<s.size
  .by_cases hA:PG s[k] (k == 0)=true
   .have hnx:=hi.next hlt hA;by_cases hlow:97<=(s[k].toNat:Int)/\(s[k].toNat:Int)<=122
    .obtain⟨l1,l2⟩:=hlow;clear hA;go_wp2
     all_goals
      go_round
      case rel=>exact⟨k+1,o_,by go_num,hnx⟩
      case measure=>simp[intOf];omega
    .have h2:(k == 0)=false/\48<=(s[k].toNat:Int)/\(s[k].toNat:Int)<=57:=by
      simp only[PG,hlow,decide_false,Bool.false_or,Zc,Bool.not_eq_true',decide_eq_true_eq]at hA;exact hA
     obtain⟨h3,h4,h5⟩:=h2;have h6:((k:Int)== 0)=false:=by simp at h3 ⊢;omega
     have h7:(s[k].toNat:Int)< 97:=by omega
     clear hA hlow;go_wp2
     all_goals
      go_round
      case rel=>exact⟨k+1,o_,by go_num,hnx⟩
      case measure=>simp[intOf];omega
   .have hno:=Z5 (hi.no hlt (by simpa using hA));by_cases h0:k=0
    .subst h0;have h2:=(pZ hA).1;clear hA;by_cases h3:97<=(s[0].toNat:Int)
     .have h4:122 <(s[0].toNat:Int):=by omega
      have h4b:decide ((s[0].toNat:Int)<=122)=false:=by simp;omega
      have h4c:decide ((s[0].toNat:Int)<=57)=false:=by simp;omega
      have h4d:(48:Int)<=(s[0].toNat:Int):=by omega
      have h4e:(57:Int)<(s[0].toNat:Int):=by omega
      clear h2;go_wp2;all_goals (go_ret;exact⟨by rw[hno.out];rfl,rfl⟩)
     .have h4:(s[0].toNat:Int)< 97:=by omega
      clear h2 h3;go_wp2;all_goals (go_ret;exact⟨by rw[hno.out];rfl,rfl⟩)
    .have h6:((k:Int)== 0)=false:=by simp;omega
     have h2:=(pZ hA).1;have h3:=(pZ hA).2 (by simpa using h0);clear hA;by_cases h4:97<=(s[k].toNat:Int)
     .have h5:122 <(s[k].toNat:Int):=by omega
      have h5b:decide ((s[k].toNat:Int)<=122)=false:=by simp;omega
      have h5c:decide ((s[k].toNat:Int)<=57)=false:=by simp;omega
      have h5d:(48:Int)<=(s[k].toNat:Int):=by omega
      have h5e:(57:Int)<(s[k].toNat:Int):=by omega
      clear h2;go_wp2;all_goals (go_ret;exact⟨by rw[hno.out];rfl,rfl⟩)
     .have h5:(s[k].toNat:Int)< 97:=by omega
      clear h2 h4;by_cases h7:48<=(s[k].toNat:Int)
      .have h8:57 <(s[k].toNat:Int):=by omega
       have h8b:decide ((s[k].toNat:Int)<=57)=false:=by simp;omega
       clear h3;go_wp2;all_goals (go_ret;exact⟨by rw[hno.out];rfl,rfl⟩)
      .have h8:(s[k].toNat:Int)< 48:=by omega
       clear h3 h7;go_wp2;all_goals (go_ret;exact⟨by rw[hno.out];rfl,rfl⟩)
  .have hy:=Z5 (hi.yes hlt);go_wp2;go_ret;exact⟨by rw[hy.out];exact PE (by first |(simp;omega)|(rw[Bool.eq_iff_iff];simp;omega)),rfl⟩

def Xe(s:ByteArray)(b:Int):Bool:=FH s && ((s.data.toList.head?.map fun x=>(x.toNat:Int))== some b)
abbrev Qc(s:ByteArray):Bool:=Xe s 112
abbrev XZ(s:ByteArray):Bool:=Xe s 109
theorem Zd1{s:ByteArray}(h:FH s=true):0<s.size:=by
 unfold FH at h;simp only[Zc,decide_eq_true_eq]at h;omega
theorem nm0{s:ByteArray}(h:FH s=true)(hz:0<s.size)(b:Int):Xe s b=(((s[0]'hz).toNat:Int)== b):=by
 have h0:=Uo s hz;rw[List.drop_zero]at h0;rw[Xe,h,h0];simp


theorem Z5K(s:ByteArray)(w:World)(hs:s.size<=4194304):Calls prog 99 #[.string s] w fun e w'=>e=QM (Qc s)/\w=w':=by
 by_cases h:FH s=true
 .have hz:=Zd1 h;have hfin:=Z5 (nm0 h hz 112);have H:=Z5 h;clear h;go_enter func99,ntmps99;go_wp2_with (go_at_call 140;refine(Jy _ _ hs).mono ?_;rw[H.out];rintro e w' ⟨rfl,rfl⟩);go_ret;exact⟨by rw[Qc,hfin.out];rfl,rfl⟩
 .have h':FH s=false:=by simpa using h
  have hfin:Hid (Qc s=false):=by simp[Hid,Qc,Xe,h']
  have H:=Z5 h';clear h h';go_enter func99,ntmps99;go_wp2_with (go_at_call 140;refine(Jy _ _ hs).mono ?_;rw[H.out];rintro e w' ⟨rfl,rfl⟩);go_ret;exact⟨by rw[hfin.out];rfl,rfl⟩


theorem Z1Y(s:ByteArray)(w:World)(hs:s.size<=4194304):Calls prog 100 #[.string s] w fun e w'=>e=QM (XZ s)/\w=w':=by
 by_cases h:FH s=true
 .have hz:=Zd1 h;have hfin:=Z5 (nm0 h hz 109);have H:=Z5 h;clear h;go_enter func100,ntmps100;go_wp2_with (go_at_call 140;refine(Jy _ _ hs).mono ?_;rw[H.out];rintro e w' ⟨rfl,rfl⟩);go_ret;exact⟨by rw[XZ,hfin.out];rfl,rfl⟩
 .have h':FH s=false:=by simpa using h
  have hfin:Hid (XZ s=false):=by simp[Hid,XZ,Xe,h']
  have H:=Z5 h';clear h h';go_enter func100,ntmps100;go_wp2_with (go_at_call 140;refine(Jy _ _ hs).mono ?_;rw[H.out];rintro e w' ⟨rfl,rfl⟩);go_ret;exact⟨by rw[hfin.out];rfl,rfl⟩

def Be(n lo hi:Int):Bool:=decide (lo<=n/\n<=hi)
theorem Y8{n lo hi:Int}  :Be n lo hi=true↔lo<=n/\n<=hi:=by simp[Be]
theorem Zsw(n lo hi:Int)(w:World):Calls prog 138 #[.int .i64 n,.int .i64 lo,.int .i64 hi] w fun e w'=>e=QM (Be n lo hi)/\w=w':=by
 go_enter func138,ntmps138;go_wp2;all_goals (go_ret;refine⟨PE ?_,rfl⟩;unfold Be;rw[Bool.eq_iff_iff];simp;try omega)
def Yi(t x y:Int):Bool:=Be t 0 3 && (Be x (-1000000) 1000000 && Be y (-1000000) 1000000)
theorem Qf(t x y:Int)(w:World):Calls prog 96 #[Qv t x y] w fun e w'=>e=QM (Yi t x y)/\Below w.heap.size w w':=by
 go_enter func96,ntmps96;go_wp2;all_goals (go_ret;refine⟨PE ?_,Ze (Below.refl _ _) _⟩;unfold Yi Be;rw[Bool.eq_iff_iff];simp;try omega)
theorem Ym(t x y:Int)(w:World):Calls prog 98 #[Qv t x y] w fun e w'=>e=QM (Yi t x y)/\Below w.heap.size w w':=by
 go_enter func98,ntmps98;go_wp2;all_goals (go_ret;refine⟨PE ?_,Ze (Below.refl _ _) _⟩;unfold Yi Be;rw[Bool.eq_iff_iff];simp;try omega)

def Mi(bi bw:Bool)(kind turn:Int)(bp pf pt lt fe ft:Bool):Bool :=
 bi && (bp && (bw &&
  (if kind=1 then fe && pt else if kind=2∨kind=4 then pf && (pt && !ft)else if kind=3 then pf && (lt && (turn == 0))else false)))
def Zy(f:A7):Bool:=Mi (Be f.id 0 99999) (Be f.Ao 1 9999) f.kind f.Af.turn (Yi f.Af.turn f.Af.x f.Af.y) (Qc f.AL) (Qc f.Z00) (XZ f.Z00) f.AL.toList.isEmpty (f.AL.toList == f.Z00.toList)
theorem Zc2(id kind:Int)(fr Z00:ByteArray)(t x y wt:Int):Hid (Zy ⟨id,kind,fr,Z00,⟨t,x,y⟩,wt⟩=
  Mi (Be id 0 99999) (Be wt 1 9999) kind t (Yi t x y) (Qc fr) (Qc Z00) (XZ Z00) fr.toList.isEmpty (fr.toList == Z00.toList)):=rfl
theorem QX(id kind:Int)(fr Z00:ByteArray)(t x y wt:Int)(w:World)(hf:fr.size<=4194304)(ht:Z00.size<=4194304):
  Calls prog 66 #[Yx id kind fr Z00 t x y wt] w fun e w'=>e=QM (Zy ⟨id,kind,fr,Z00,⟨t,x,y⟩,wt⟩)/\Below w.heap.size w w':=by
 have E:=Zc2 id kind fr Z00 t x y wt;generalize h1:Yi t x y=bp at E;generalize h2:Qc fr=pf at E;generalize h3:Qc Z00=pt at E;generalize h4:XZ Z00=lt at E;generalize h5:fr.toList.isEmpty=fe at E;generalize h6:(fr.toList == Z00.toList)=ft at E;have H1:=Z5 h1;have H2:=Z5 h2;have H3:=Z5 h3;have H4:=Z5 h4;clear h1 h2 h3 h4;go_enter func66,ntmps66
 go_wp2_with (first
  |(go_at_call 98;refine(Ym _ _ _ _).mono ?_;rw[H1.out];rintro e w1 ⟨rfl,hb1⟩;obtain⟨hc,hfz⟩:=Mf hb1)
  |(go_at_call 99;refine(Z5K _ _ (by assumption)).mono ?_;(first|rw[H2.out]| rw[H3.out]);rintro e w2 ⟨rfl,rfl⟩)
  |(go_at_call 100;refine(Z1Y _ _ (by assumption)).mono ?_;rw[H4.out];rintro e w2 ⟨rfl,rfl⟩))
 all_goals (go_ret;refine⟨PE ?_,by repeat(first|exact Below.refl _ _|refine Ze ?_ _|refine Zg ?_ hb1)⟩;rw[E.out];unfold Mi Be;first |(simp_all;done)|(simp_all;omega))
theorem ZE(id kind:Int)(fr Z00:ByteArray)(t x y wt:Int)(w:World)(hf:fr.size<=4194304)(ht:Z00.size<=4194304):
  Calls prog 66 #[Yx id kind fr Z00 t x y wt] w fun e w'=>e=QM (Zy ⟨id,kind,fr,Z00,⟨t,x,y⟩,wt⟩)/\Below w.heap.size w w' :=
 QX id kind fr Z00 t x y wt w (Zj hf AO) (Zj ht AO)

def A7.isZero(f:A7):Bool:=(f.id == 0) && ((f.kind == 0) && (f.AL.toList.isEmpty && (f.Z00.toList.isEmpty && ((f.Af.turn == 0) && ((f.Af.x == 0) && ((f.Af.y == 0) && (f.Ao == 0)))))))
def Yc(e:Entry):Bool:=if e.remove then Be e.id 0 99999 && e.Bv.isZero else (e.id == 0) && Zy e.Bv

theorem Z3D(rm:Bool)(Bz id kind:Int)(fr Z00:ByteArray)(t x y wt:Int)(w:World)(hf:fr.size<=4194304)(ht:Z00.size<=4194304):
  Calls prog 48 #[Ny rm Bz id kind fr Z00 t x y wt] w fun e w'=>e=QM (Yc ⟨rm,Bz,⟨id,kind,fr,Z00,⟨t,x,y⟩,wt⟩⟩)/\Below w.heap.size w w':=by
 have E:Hid (Yc ⟨rm,Bz,⟨id,kind,fr,Z00,⟨t,x,y⟩,wt⟩⟩=if rm then Be Bz 0 99999 && A7.isZero ⟨id,kind,fr,Z00,⟨t,x,y⟩,wt⟩else (Bz == 0) && Zy ⟨id,kind,fr,Z00,⟨t,x,y⟩,wt⟩):=rfl;generalize h1:Zy ⟨id,kind,fr,Z00,⟨t,x,y⟩,wt⟩=vf at E;have H1:=Z5 h1;clear h1;cases rm
 all_goals
  go_enter func48,ntmps48
  go_wp2_with (first
   |(go_at_call 66;refine(QX _ _ _ _ _ _ _ _ _ hf ht).mono ?_;rw[H1.out];rintro e w1 ⟨rfl,hb1⟩))
  all_goals (go_ret;refine⟨PE ?_,by repeat(first|exact Below.refl _ _|refine Ze ?_ _|refine Zg ?_ hb1)⟩;first |(rw[E.out];simp_all[A7.isZero,Be];done)|(rw[E.out];simp_all[A7.isZero,Be];omega)|(simp_all[Yc,A7.isZero,Be];done)|(simp_all[Yc,A7.isZero,Be];omega))
theorem YE(rm:Bool)(Bz id kind:Int)(fr Z00:ByteArray)(t x y wt:Int)(w:World)(hf:fr.size<=4194304)(ht:Z00.size<=4194304):
  Calls prog 48 #[Ny rm Bz id kind fr Z00 t x y wt] w fun e w'=>e=QM (Yc ⟨rm,Bz,⟨id,kind,fr,Z00,⟨t,x,y⟩,wt⟩⟩)/\Below w.heap.size w w' :=
 Z3D rm Bz id kind fr Z00 t x y wt w (Zj hf AO) (Zj ht AO)
def PH:List UInt8->Int->Int
 |[],h=>h
 |b::r,h=>PH r ((31*h+(b.toNat:Int)) % 65521)
def LD(s:ByteArray):Int:=PH s.data.toList 7
def Up(s:ByteArray)(k:Nat)(h:Int):Prop:=LD s=PH (s.data.toList.drop k) h
theorem ZmL{s:ByteArray}{k:Nat}(hi:Up s k h)(hk:k<s.size):Up s (k+1) ((31*h+(s[k].toNat:Int)) % 65521):=by
 unfold Up at *
 rw[hi,Uo s hk,PH]
theorem ZpG{s:ByteArray}{k:Nat}(hi:Up s k h)(hk:¬ k<s.size):h=LD s:=by
 unfold Up at *
 rw[hi,List.drop_eq_nil_of_le AR,PH]
theorem Zan:∀ (l:List UInt8) (h:Int),0<=h->h<=65520->0<=PH l h/\PH l h<=65520
 |[],h,h0,h1=>⟨h0,h1⟩
 |b::r,h,h0,h1=>by rw[PH];exact Zan r _ o_ o_
theorem iJ(s:ByteArray):0<=LD s/\LD s<=65520:=Zan _ _ o_ o_
theorem XB(s:ByteArray)(w:World)(hs:s.size<=1073741824):Calls prog 70 #[.string s] w fun e w'=>e=LA (LD s)/\w=w':=by
 go_enter func70,ntmps70;go_wp2;go_loop [3,4] (fun h i=>∃ (k:Nat) (q:Int),k<=s.size/\i=.int .i64 k/\h=.int .i64 q/\0<=q/\q<=65520/\Up s k q) (fun _ i=>s.size-(intOf i).toNat)
 case atStart=>exact⟨0,7,o_,rfl,rfl,o_,o_,rfl⟩
 case round =>
  obtain⟨k,q,hk,rfl,rfl,hq0,hq1,hi⟩:=hrel;by_cases hlt:k<s.size
  .have hn:=ZmL hi hlt;have hb:=s[k].toNat_lt;go_wp2;go_round
   case rel=>exact⟨k+1,(31*q+(s[k].toNat:Int)) % 65521,o_,by go_num,rfl,o_,o_,hn⟩
   case measure=>simp[intOf];omega
  .have he:=Z5 (ZpG hi hlt);go_wp2;go_ret;exact⟨by rw[<- he.out];rfl,rfl⟩


end Go.Proofs.YtcnbphnnfmphlaaGreatDoor
