/- Texts of this proof, one behind the other: Base, Names, Valid, Nums. -/
import Derived.WalkKit
import Derived.ProofKit
import Derived.OpenShut
import Derived.ShutString
import Derived.Lib.Hide
import Derived.Deep.Draws
import Derived.Test.YtdfemnffpaopfaaGreatDoorProg
import Derived.Laws.BitsAllLaws
import Derived.Laws.BitsLemmas
namespace Go.Proofs.YtdfemnffpaopfaaGreatDoor
open Go.RowKit
set_option linter.unusedVariables false
set_option linter.unusedSimpArgs false
set_option maxHeartbeats 400000
set_option maxRecDepth 100000
structure Pose where
  turn:Int
  x:Int
  y:Int
structure Factor where
  id:Int
  kind:Int
  frm:ByteArray
  to:ByteArray
  pose:Pose
  weight:Int
structure Entry where
  remove:Bool
  id:Int
  factor:Factor
structure Packet where
  ack:Bool
  number:Int
  text:ByteArray
  sum:Int

def Factor.cells (f:Factor):List Value:=[.int .i64 f.id,.int .i64 f.kind,.string f.frm,.string f.to,.int .i64 f.pose.turn,.int .i64 f.pose.x,.int .i64 f.pose.y,.int .i64 f.weight]
def Packet.cells (f:Packet):List Value:=[.bool f.ack,.int .i64 f.number,.string f.text,.int .i64 f.sum]
def strCells (s:ByteArray):List Value:=[.string s]
abbrev vPose (t x y:Int):Value:=.agg #[.int .i64 t,.int .i64 x,.int .i64 y]
abbrev vFactor (id kind:Int) (fr to:ByteArray) (t x y wt:Int):Value:=.agg #[.int .i64 id,.int .i64 kind,.string fr,.string to,.int .i64 t,.int .i64 x,.int .i64 y,.int .i64 wt]
abbrev vEntry (rm:Bool) (eid:Int) (id kind:Int) (fr to:ByteArray) (t x y wt:Int):Value:=.agg #[.bool rm,.int .i64 eid,.int .i64 id,.int .i64 kind,.string fr,.string to,.int .i64 t,.int .i64 x,.int .i64 y,.int .i64 wt]
abbrev vPacket (ack:Bool) (num:Int) (tx:ByteArray) (sum:Int):Value:=.agg #[.bool ack,.int .i64 num,.string tx,.int .i64 sum]
abbrev rInt (n:Int):Ending:=.returned (.int .i64 n)
abbrev rBool (b:Bool):Ending:=.returned (.bool b)

theorem ret_bool {a b:Bool} (h:a=b):Ending.returned (.bool a)=rBool b:=by rw [h]
theorem ret_int {a b:Int} (h:a=b):Ending.returned (.int .i64 a)=rInt b:=by rw [h]

theorem bAlloc {a w:World} (h:Below a.heap.size a w) (o:Obj):Below a.heap.size a (w.alloc o):=h.alloc h.size o
theorem bTrans {a w w':World} (h:Below a.heap.size a w) (k:Below w.heap.size w w'):Below a.heap.size a w':=h.trans (k.mono h.size)
theorem bDrew {a w:World} (h:Below a.heap.size a w):Below a.heap.size a w.drew:=h.drew
theorem bDrewN {a w:World} (h:Below a.heap.size a w) (n:Nat):Below a.heap.size a (w.drewN n):=⟨h.os,h.tape,h.output,h.size,h.block⟩
theorem bSet {a w:World} (h:Below a.heap.size a w) {p:Addr} (hp:a.heap.size≤p.block) (u:Value):Below a.heap.size a (w.setCell p u):=h.setCell hp u
theorem bcell {W w1:World} (hb:Below W.heap.size W w1):(∀ b o,b < W.heap.size→w1.cell? ⟨b,o,none⟩=W.cell? ⟨b,o,none⟩)∧(∀ b o,b < W.heap.size→w1.frozen? ⟨b,o,none⟩=W.frozen? ⟨b,o,none⟩) :=
  ⟨fun b o h=>hb.cell (p:=⟨b,o,none⟩) h,fun b o h=>hb.frozen (p:=⟨b,o,none⟩) h⟩
theorem bsz1 {B:Nat} {w w1:World} {o:Obj} (h:Below B (w.alloc o) w1):w.heap.size+1≤w1.heap.size:=by
  have:=h.size;simp at this;omega
theorem bsz2 {B:Nat} {w w1:World} {o o2:Obj} (h:Below B ((w.alloc o).alloc o2) w1):w.heap.size+2≤w1.heap.size:=by
  have:=h.size;simp at this;omega
theorem bBox {W w1:World} (hb:Below W.heap.size W w1) (g:Nat) (hg:g < W.heap.size):∀ o,w1.cell? ⟨g,o,none⟩=W.cell? ⟨g,o,none⟩:=fun o=>hb.cell (p:=⟨g,o,none⟩) hg
theorem bBoxF {W w1:World} (hb:Below W.heap.size W w1) (g:Nat) (hg:g < W.heap.size):∀ o,w1.frozen? ⟨g,o,none⟩=W.frozen? ⟨g,o,none⟩:=fun o=>hb.frozen (p:=⟨g,o,none⟩) hg
theorem cell_lt {w:World} {p:Addr} {v:Value} (h:w.cell? p=some v):p.block < w.heap.size:=by
  rcases Nat.lt_or_ge p.block w.heap.size with hlt | hge
  · exact hlt
  · simp [World.cell?,Array.getElem?_eq_none hge] at h
theorem bCell {a w:World} (h:Below a.heap.size a w) {p:Addr} {v:Value} (hc:a.cell? p=some v):w.cell? p=some v:=(h.cell (cell_lt hc)).trans hc

def Row (w:World) (A:Option Addr) (n sz:Nat) (css:List (List Value)):Prop :=
  css.length=n∧∀ i cs,css[i]? = some cs→∃ g off,A=some ⟨g,off,none⟩∧∀ j v,cs[j]? = some v→w.cell? ⟨g,off+i * sz+j,none⟩=some v
abbrev RowF (w:World) (A:Option Addr) (n:Nat) (l:List Factor):Prop:=Row w A n 8 (l.map Factor.cells)
abbrev RowK (w:World) (A:Option Addr) (n:Nat) (l:List Packet):Prop:=Row w A n 4 (l.map Packet.cells)
abbrev RowS (w:World) (A:Option Addr) (n:Nat) (l:List ByteArray):Prop:=Row w A n 1 (l.map strCells)
theorem Row.below {w w':World} {A:Option Addr} {n sz:Nat} {css:List (List Value)} (h:Row w A n sz css) (hb:Below w.heap.size w w'):Row w' A n sz css :=
  ⟨h.1,fun i cs hi=>by
    obtain ⟨g,off,rfl,hc⟩:=h.2 i cs hi
    exact ⟨g,off,rfl,fun j v hv=>bCell hb (hc j v hv)⟩⟩
theorem Row.len {α:Type} {w:World} {A:Option Addr} {n sz:Nat} {l:List α} {c:α→List Value} (h:Row w A n sz (l.map c)):Hid (l.length=n):=by
  have:=h.1;simpa [Hid] using this
theorem Row.at_ {α:Type} {w:World} {A:Option Addr} {n sz:Nat} {l:List α} {c:α→List Value} (h:Row w A n sz (l.map c)) {k:Nat} (hk:k < n) :
    ∃ (f:α) (g off:Nat),Hid (l[k]? = some f)∧A=some ⟨g,off,none⟩∧∀ j v,(c f)[j]? = some v→w.cell? ⟨g,off+k * sz+j,none⟩=some v:=by
  have hl:l.length=n:=h.len
  have hk':k < l.length:=by omega
  obtain ⟨g,off,hA,hc⟩:=h.2 k (c l[k]) (by simp [hk'])
  exact ⟨l[k],g,off,by simp [Hid,hk'],hA,hc⟩
theorem RowF.at_ {w:World} {A:Option Addr} {n:Nat} {l:List Factor} (h:RowF w A n l) {k:Nat} (hk:k < n) :
    ∃ (f:Factor) (g off:Nat),Hid (l[k]? = some f)∧A=some ⟨g,off,none⟩∧w.cell? ⟨g,off+k * 8,none⟩=some (.int .i64 f.id)∧w.cell? ⟨g,off+k * 8+1,none⟩=some (.int .i64 f.kind)∧w.cell? ⟨g,off+k * 8+2,none⟩=some (.string f.frm)∧w.cell? ⟨g,off+k * 8+3,none⟩=some (.string f.to) ∧
      w.cell? ⟨g,off+k * 8+4,none⟩=some (.int .i64 f.pose.turn)∧w.cell? ⟨g,off+k * 8+5,none⟩=some (.int .i64 f.pose.x)∧w.cell? ⟨g,off+k * 8+6,none⟩=some (.int .i64 f.pose.y)∧w.cell? ⟨g,off+k * 8+7,none⟩=some (.int .i64 f.weight):=by
  obtain ⟨f,g,off,hf,hA,hc⟩:=Row.at_ h hk
  exact ⟨f,g,off,hf,hA,hc 0 _ rfl,hc 1 _ rfl,hc 2 _ rfl,hc 3 _ rfl,hc 4 _ rfl,hc 5 _ rfl,hc 6 _ rfl,hc 7 _ rfl⟩
theorem RowK.at_ {w:World} {A:Option Addr} {n:Nat} {l:List Packet} (h:RowK w A n l) {k:Nat} (hk:k < n) :
    ∃ (f:Packet) (g off:Nat),Hid (l[k]? = some f)∧A=some ⟨g,off,none⟩∧w.cell? ⟨g,off+k * 4,none⟩=some (.bool f.ack)∧w.cell? ⟨g,off+k * 4+1,none⟩=some (.int .i64 f.number)∧w.cell? ⟨g,off+k * 4+2,none⟩=some (.string f.text)∧w.cell? ⟨g,off+k * 4+3,none⟩=some (.int .i64 f.sum):=by
  obtain ⟨f,g,off,hf,hA,hc⟩:=Row.at_ h hk
  exact ⟨f,g,off,hf,hA,hc 0 _ rfl,hc 1 _ rfl,hc 2 _ rfl,hc 3 _ rfl⟩
theorem RowS.at_ {w:World} {A:Option Addr} {n:Nat} {l:List ByteArray} (h:RowS w A n l) {k:Nat} (hk:k < n) :
    ∃ (f:ByteArray) (g off:Nat),Hid (l[k]? = some f)∧A=some ⟨g,off,none⟩∧w.cell? ⟨g,off+k,none⟩=some (.string f):=by
  obtain ⟨f,g,off,hf,hA,hc⟩:=Row.at_ h hk
  exact ⟨f,g,off,hf,hA,by simpa using hc 0 _ rfl⟩
theorem drop_at {α:Type} {l:List α} {k:Nat} {f:α} (h:Hid (l[k]? = some f)):l.drop k=f :: l.drop (k+1):=by
  have h':l[k]? = some f:=h
  obtain ⟨hk,rfl⟩:=List.getElem?_eq_some_iff.1 h'
  exact List.drop_eq_getElem_cons hk
theorem drop_end {α:Type} {l:List α} {n k:Nat} (h:Hid (l.length=n)) (hk:¬ k < n):l.drop k=[]:=by
  have h':l.length=n:=h
  exact List.drop_eq_nil_of_le (by omega)

def Factor.bulk (f:Factor):Nat:=f.frm.size+f.to.size
def Packet.bulk (f:Packet):Nat:=f.text.size
def sumBulk {α:Type} (c:α→Nat):List α→Nat
  | []=>0
  | x :: l=>c x+sumBulk c l
theorem mem_bulk {α:Type} {c:α→Nat} {x:α}:∀ {l:List α},x∈l→c x≤sumBulk c l
  | y :: l,h=>by
    rcases List.mem_cons.1 h with rfl | h
    · simp only [sumBulk];omega
    · have:=mem_bulk (c:=c) h;simp only [sumBulk];omega
def SzPost (left:Int) (n:Nat) (e:Ending):Prop:=∃ r,e=rInt r∧((r = -1)∨(0≤r∧Hid (r+n=left)))
def okByte (b:UInt8) (first:Bool):Bool:=decide (97≤(b.toNat:Int)∧(b.toNat:Int)≤122) || (!first && decide (48≤(b.toNat:Int)∧(b.toNat:Int)≤57))
theorem okByte_no {b:UInt8} {first:Bool} (h:¬ okByte b first=true):¬ (97≤(b.toNat:Int)∧(b.toNat:Int)≤122)∧(first=false→¬ (48≤(b.toNat:Int)∧(b.toNat:Int)≤57)):=by
  unfold okByte at h
  simp only [Bool.or_eq_true,Bool.and_eq_true,Bool.not_eq_true',decide_eq_true_eq] at h
  exact ⟨fun k=>h (.inl k),fun hf k=>h (.inr ⟨hf,k⟩)⟩
def namL:List UInt8→Bool→Bool
  | [],_=>true
  | b :: r,first=>okByte b first && namL r false
def isNm (s:ByteArray):Bool:=decide (1≤s.size∧s.size≤8) && namL s.data.toList true
def NmInv (s:ByteArray) (k:Nat):Prop:=namL s.data.toList true=namL (s.data.toList.drop k) (k == 0)
theorem NmInv.start (s:ByteArray):NmInv s 0:=rfl
theorem sdrop (s:ByteArray) {k:Nat} (hk:k < s.size):s.data.toList.drop k=s[k] :: s.data.toList.drop (k+1):=by
  have h:k < s.data.toList.length:=by simpa using hk
  rw [List.drop_eq_getElem_cons h];rfl
theorem NmInv.next {s:ByteArray} {k:Nat} (h:NmInv s k) (hk:k < s.size) (hb:okByte s[k] (k == 0)=true):NmInv s (k+1):=by
  unfold NmInv at *
  rw [h,sdrop s hk,namL,hb,Bool.true_and]
  rfl
theorem NmInv.no {s:ByteArray} {k:Nat} (h:NmInv s k) (hk:k < s.size) (hb:okByte s[k] (k == 0)=false):isNm s=false:=by
  unfold NmInv at h
  rw [isNm,h,sdrop s hk,namL,hb,Bool.false_and,Bool.and_false]
theorem NmInv.yes {s:ByteArray} {k:Nat} (h:NmInv s k) (hk:¬ k < s.size):isNm s=decide (1≤s.size∧s.size≤8):=by
  unfold NmInv at h
  rw [isNm,h,List.drop_eq_nil_of_le (by simp;omega),namL,Bool.and_true]

theorem spec_IsName_c (s:ByteArray) (w:World) (hs:s.size≤4194304):Calls Tryz.prog 210 #[.string s] w fun e w'=>e=rBool (isNm s)∧w=w':=by
  go_enter Tryz.func210,Tryz.ntmps210
  go_wp2
  go_loop [3,4] (fun i t=>∃ (k:Nat),k≤s.size∧i=.int .i64 k∧NmInv s k) (fun i _=>s.size - (intOf i).toNat)
  case atStart=>exact ⟨0,by omega,rfl,NmInv.start s⟩
  case round =>
    obtain ⟨k,hk,rfl,hi⟩:=hrel
    by_cases hlt:k < s.size
    · by_cases hA:okByte s[k] (k == 0)=true
      · have hnx:=hi.next hlt hA
        by_cases hlow:97≤(s[k].toNat:Int)∧(s[k].toNat:Int)≤122
        · obtain ⟨l1,l2⟩:=hlow
          clear hA
          go_wp2
          all_goals
            go_round
            case rel=>exact ⟨k+1,by omega,by go_num,hnx⟩
            case measure=>simp [intOf];omega
        · have h2:(k == 0)=false∧48≤(s[k].toNat:Int)∧(s[k].toNat:Int)≤57:=by
            simp only [okByte,hlow,decide_false,Bool.false_or,Bool.and_eq_true,Bool.not_eq_true',decide_eq_true_eq] at hA
            exact hA
          obtain ⟨h3,h4,h5⟩:=h2
          have h6:((k:Int) == 0)=false:=by simp at h3 ⊢;omega
          have h7:(s[k].toNat:Int) < 97:=by omega
          clear hA hlow
          go_wp2
          all_goals
            go_round
            case rel=>exact ⟨k+1,by omega,by go_num,hnx⟩
            case measure=>simp [intOf];omega
      · have hno:=Lib.hid (hi.no hlt (by simpa using hA))
        by_cases h0:k=0
        · subst h0
          have h2:=(okByte_no hA).1
          clear hA
          by_cases h3:97≤(s[0].toNat:Int)
          · have h4:122 < (s[0].toNat:Int):=by omega
            have h4b:decide ((s[0].toNat:Int)≤122)=false:=by simp;omega
            have h4c:decide ((s[0].toNat:Int)≤57)=false:=by simp;omega
            have h4d:(48:Int)≤(s[0].toNat:Int):=by omega
            have h4e:(57:Int) < (s[0].toNat:Int):=by omega
            clear h2
            go_wp2
            all_goals (go_ret;exact ⟨by rw [hno.out];rfl,rfl⟩)
          · have h4:(s[0].toNat:Int) < 97:=by omega
            clear h2 h3
            go_wp2
            all_goals (go_ret;exact ⟨by rw [hno.out];rfl,rfl⟩)
        · have h6:((k:Int) == 0)=false:=by simp;omega
          have h2:=(okByte_no hA).1
          have h3:=(okByte_no hA).2 (by simpa using h0)
          clear hA
          by_cases h4:97≤(s[k].toNat:Int)
          · have h5:122 < (s[k].toNat:Int):=by omega
            have h5b:decide ((s[k].toNat:Int)≤122)=false:=by simp;omega
            have h5c:decide ((s[k].toNat:Int)≤57)=false:=by simp;omega
            have h5d:(48:Int)≤(s[k].toNat:Int):=by omega
            have h5e:(57:Int) < (s[k].toNat:Int):=by omega
            clear h2
            go_wp2
            all_goals (go_ret;exact ⟨by rw [hno.out];rfl,rfl⟩)
          · have h5:(s[k].toNat:Int) < 97:=by omega
            clear h2 h4
            by_cases h7:48≤(s[k].toNat:Int)
            · have h8:57 < (s[k].toNat:Int):=by omega
              have h8b:decide ((s[k].toNat:Int)≤57)=false:=by simp;omega
              clear h3
              go_wp2
              all_goals (go_ret;exact ⟨by rw [hno.out];rfl,rfl⟩)
            · have h8:(s[k].toNat:Int) < 48:=by omega
              clear h3 h7
              go_wp2
              all_goals (go_ret;exact ⟨by rw [hno.out];rfl,rfl⟩)
    · have hy:=Lib.hid (hi.yes hlt)
      by_cases h1:1≤s.size
      · by_cases h2:s.size≤8
        all_goals
          go_wp2
          go_ret
          exact ⟨by rw [hy.out];exact ret_bool (by first | (simp;omega) | (rw [Bool.eq_iff_iff];simp;omega)),rfl⟩
      · go_wp2
        go_ret
        exact ⟨by rw [hy.out];exact ret_bool (by first | (simp;omega) | (rw [Bool.eq_iff_iff];simp;omega)),rfl⟩

theorem impl_IsName_c (s:ByteArray) (w:World) (hs:s.size≤4194304):Calls Tryz.prog 184 #[.string s] w fun e w'=>e=rBool (isNm s)∧w=w':=by
  by_cases h1:s.size < 1∨8 < s.size
  · have hno:Hid (isNm s=false):=by
      simp only [Hid,isNm,Bool.and_eq_false_iff,decide_eq_false_iff_not];omega
    go_enter Tryz.func184,Tryz.ntmps184
    rcases h1 with h1 | h1
    · go_wp2
      go_ret
      exact ⟨by rw [hno.out];rfl,rfl⟩
    · have h2:1≤s.size:=by omega
      go_wp2
      go_ret
      exact ⟨by rw [hno.out];rfl,rfl⟩
  have hs1:1≤s.size:=by omega
  have hs8:s.size≤8:=by omega
  clear h1
  go_enter Tryz.func184,Tryz.ntmps184
  go_wp2
  go_loop [3,4,5] (fun i t u=>∃ (k:Nat),k≤s.size∧i=.int .i64 k∧NmInv s k) (fun i _ _=>s.size - (intOf i).toNat)
  case atStart=>exact ⟨0,by omega,rfl,NmInv.start s⟩
  case round =>
    obtain ⟨k,hk,rfl,hi⟩:=hrel
    by_cases hlt:k < s.size
    · by_cases hA:okByte s[k] (k == 0)=true
      · have hnx:=hi.next hlt hA
        by_cases hlow:97≤(s[k].toNat:Int)∧(s[k].toNat:Int)≤122
        · obtain ⟨l1,l2⟩:=hlow
          clear hA
          go_wp2
          all_goals
            go_round
            case rel=>exact ⟨k+1,by omega,by go_num,hnx⟩
            case measure=>simp [intOf];omega
        · have h2:(k == 0)=false∧48≤(s[k].toNat:Int)∧(s[k].toNat:Int)≤57:=by
            simp only [okByte,hlow,decide_false,Bool.false_or,Bool.and_eq_true,Bool.not_eq_true',decide_eq_true_eq] at hA
            exact hA
          obtain ⟨h3,h4,h5⟩:=h2
          have h6:((k:Int) == 0)=false:=by simp at h3 ⊢;omega
          have h7:(s[k].toNat:Int) < 97:=by omega
          clear hA hlow
          go_wp2
          all_goals
            go_round
            case rel=>exact ⟨k+1,by omega,by go_num,hnx⟩
            case measure=>simp [intOf];omega
      · have hno:=Lib.hid (hi.no hlt (by simpa using hA))
        by_cases h0:k=0
        · subst h0
          have h2:=(okByte_no hA).1
          clear hA
          by_cases h3:97≤(s[0].toNat:Int)
          · have h4:122 < (s[0].toNat:Int):=by omega
            have h4b:decide ((s[0].toNat:Int)≤122)=false:=by simp;omega
            have h4c:decide ((s[0].toNat:Int)≤57)=false:=by simp;omega
            have h4d:(48:Int)≤(s[0].toNat:Int):=by omega
            have h4e:(57:Int) < (s[0].toNat:Int):=by omega
            clear h2
            go_wp2
            all_goals (go_ret;exact ⟨by rw [hno.out];rfl,rfl⟩)
          · have h4:(s[0].toNat:Int) < 97:=by omega
            clear h2 h3
            go_wp2
            all_goals (go_ret;exact ⟨by rw [hno.out];rfl,rfl⟩)
        · have h6:((k:Int) == 0)=false:=by simp;omega
          have h2:=(okByte_no hA).1
          have h3:=(okByte_no hA).2 (by simpa using h0)
          clear hA
          by_cases h4:97≤(s[k].toNat:Int)
          · have h5:122 < (s[k].toNat:Int):=by omega
            have h5b:decide ((s[k].toNat:Int)≤122)=false:=by simp;omega
            have h5c:decide ((s[k].toNat:Int)≤57)=false:=by simp;omega
            have h5d:(48:Int)≤(s[k].toNat:Int):=by omega
            have h5e:(57:Int) < (s[k].toNat:Int):=by omega
            clear h2
            go_wp2
            all_goals (go_ret;exact ⟨by rw [hno.out];rfl,rfl⟩)
          · have h5:(s[k].toNat:Int) < 97:=by omega
            clear h2 h4
            by_cases h7:48≤(s[k].toNat:Int)
            · have h8:57 < (s[k].toNat:Int):=by omega
              have h8b:decide ((s[k].toNat:Int)≤57)=false:=by simp;omega
              clear h3
              go_wp2
              all_goals (go_ret;exact ⟨by rw [hno.out];rfl,rfl⟩)
            · have h8:(s[k].toNat:Int) < 48:=by omega
              clear h3 h7
              go_wp2
              all_goals (go_ret;exact ⟨by rw [hno.out];rfl,rfl⟩)
    · have hy:=Lib.hid (hi.yes hlt)
      go_wp2
      go_ret
      exact ⟨by rw [hy.out];exact ret_bool (by first | (simp;omega) | (rw [Bool.eq_iff_iff];simp;omega)),rfl⟩

def nmWith (s:ByteArray) (b:Int):Bool:=isNm s && ((s.data.toList.head?.map fun x=>(x.toNat:Int)) == some b)
abbrev isPoseNm (s:ByteArray):Bool:=nmWith s 112
abbrev isLandNm (s:ByteArray):Bool:=nmWith s 109
theorem isNm_size {s:ByteArray} (h:isNm s=true):0 < s.size:=by
  unfold isNm at h
  simp only [Bool.and_eq_true,decide_eq_true_eq] at h
  omega
theorem nm0 {s:ByteArray} (h:isNm s=true) (hz:0 < s.size) (b:Int):nmWith s b=(((s[0]'hz).toNat:Int) == b):=by
  have h0:=sdrop s hz
  rw [List.drop_zero] at h0
  rw [nmWith,h,h0]
  simp

theorem spec_IsPoseName_c (s:ByteArray) (w:World) (hs:s.size≤4194304):Calls Tryz.prog 188 #[.string s] w fun e w'=>e=rBool (isPoseNm s)∧w=w':=by
  by_cases h:isNm s=true
  · have hz:=isNm_size h
    have hfin:=Lib.hid (nm0 h hz 112)
    have H:=Lib.hid h
    clear h
    go_enter Tryz.func188,Tryz.ntmps188
    go_wp2_with (go_at_call 210;refine (spec_IsName_c _ _ hs).mono ?_;rw [H.out];rintro e w' ⟨rfl,rfl⟩)
    go_ret
    exact ⟨by rw [isPoseNm,hfin.out];rfl,rfl⟩
  · have h':isNm s=false:=by simpa using h
    have hfin:Hid (isPoseNm s=false):=by simp [Hid,isPoseNm,nmWith,h']
    have H:=Lib.hid h'
    clear h h'
    go_enter Tryz.func188,Tryz.ntmps188
    go_wp2_with (go_at_call 210;refine (spec_IsName_c _ _ hs).mono ?_;rw [H.out];rintro e w' ⟨rfl,rfl⟩)
    go_ret
    exact ⟨by rw [hfin.out];rfl,rfl⟩

theorem impl_IsPoseName_c (s:ByteArray) (w:World) (hs:s.size≤4194304):Calls Tryz.prog 144 #[.string s] w fun e w'=>e=rBool (isPoseNm s)∧w=w':=by
  by_cases h:isNm s=true
  · have hz:=isNm_size h
    have hfin:=Lib.hid (nm0 h hz 112)
    have H:=Lib.hid h
    clear h
    go_enter Tryz.func144,Tryz.ntmps144
    go_wp2_with (go_at_call 184;refine (impl_IsName_c _ _ hs).mono ?_;rw [H.out];rintro e w' ⟨rfl,rfl⟩)
    go_ret
    exact ⟨by rw [isPoseNm,hfin.out];rfl,rfl⟩
  · have h':isNm s=false:=by simpa using h
    have hfin:Hid (isPoseNm s=false):=by simp [Hid,isPoseNm,nmWith,h']
    have H:=Lib.hid h'
    clear h h'
    go_enter Tryz.func144,Tryz.ntmps144
    go_wp2_with (go_at_call 184;refine (impl_IsName_c _ _ hs).mono ?_;rw [H.out];rintro e w' ⟨rfl,rfl⟩)
    go_ret
    exact ⟨by rw [hfin.out];rfl,rfl⟩

theorem spec_IsLandmarkName_c (s:ByteArray) (w:World) (hs:s.size≤4194304):Calls Tryz.prog 189 #[.string s] w fun e w'=>e=rBool (isLandNm s)∧w=w':=by
  by_cases h:isNm s=true
  · have hz:=isNm_size h
    have hfin:=Lib.hid (nm0 h hz 109)
    have H:=Lib.hid h
    clear h
    go_enter Tryz.func189,Tryz.ntmps189
    go_wp2_with (go_at_call 210;refine (spec_IsName_c _ _ hs).mono ?_;rw [H.out];rintro e w' ⟨rfl,rfl⟩)
    go_ret
    exact ⟨by rw [isLandNm,hfin.out];rfl,rfl⟩
  · have h':isNm s=false:=by simpa using h
    have hfin:Hid (isLandNm s=false):=by simp [Hid,isLandNm,nmWith,h']
    have H:=Lib.hid h'
    clear h h'
    go_enter Tryz.func189,Tryz.ntmps189
    go_wp2_with (go_at_call 210;refine (spec_IsName_c _ _ hs).mono ?_;rw [H.out];rintro e w' ⟨rfl,rfl⟩)
    go_ret
    exact ⟨by rw [hfin.out];rfl,rfl⟩

theorem impl_IsLandmarkName_c (s:ByteArray) (w:World) (hs:s.size≤4194304):Calls Tryz.prog 145 #[.string s] w fun e w'=>e=rBool (isLandNm s)∧w=w':=by
  by_cases h:isNm s=true
  · have hz:=isNm_size h
    have hfin:=Lib.hid (nm0 h hz 109)
    have H:=Lib.hid h
    clear h
    go_enter Tryz.func145,Tryz.ntmps145
    go_wp2_with (go_at_call 184;refine (impl_IsName_c _ _ hs).mono ?_;rw [H.out];rintro e w' ⟨rfl,rfl⟩)
    go_ret
    exact ⟨by rw [isLandNm,hfin.out];rfl,rfl⟩
  · have h':isNm s=false:=by simpa using h
    have hfin:Hid (isLandNm s=false):=by simp [Hid,isLandNm,nmWith,h']
    have H:=Lib.hid h'
    clear h h'
    go_enter Tryz.func145,Tryz.ntmps145
    go_wp2_with (go_at_call 184;refine (impl_IsName_c _ _ hs).mono ?_;rw [H.out];rintro e w' ⟨rfl,rfl⟩)
    go_ret
    exact ⟨by rw [hfin.out];rfl,rfl⟩

def inR (n lo hi:Int):Bool:=decide (lo≤n∧n≤hi)
theorem inR_iff {n lo hi:Int}:inR n lo hi=true ↔ lo≤n∧n≤hi:=by simp [inR]
theorem l01In_c (n lo hi:Int) (w:World):Calls Tryz.prog 105 #[.int .i64 n,.int .i64 lo,.int .i64 hi] w fun e w'=>e=rBool (inR n lo hi)∧w=w':=by
  go_enter Tryz.func105,Tryz.ntmps105
  go_wp2
  all_goals (go_ret;refine ⟨ret_bool ?_,rfl⟩;unfold inR;rw [Bool.eq_iff_iff];simp;try omega)
def vldPose (t x y:Int):Bool:=inR t 0 3 && (inR x (-1000000) 1000000 && inR y (-1000000) 1000000)
theorem spec_IsValidPose_c (t x y:Int) (w:World):Calls Tryz.prog 172 #[vPose t x y] w fun e w'=>e=rBool (vldPose t x y)∧Below w.heap.size w w':=by
  go_enter Tryz.func172,Tryz.ntmps172
  go_wp2
  all_goals (go_ret;refine ⟨ret_bool ?_,bAlloc (Below.refl _ _) _⟩;unfold vldPose inR;rw [Bool.eq_iff_iff];simp;try omega)
theorem impl_IsValidPose_c (t x y:Int) (w:World):Calls Tryz.prog 143 #[vPose t x y] w fun e w'=>e=rBool (vldPose t x y)∧Below w.heap.size w w':=by
  go_enter Tryz.func143,Tryz.ntmps143
  go_wp2
  all_goals (go_ret;refine ⟨ret_bool ?_,bAlloc (Below.refl _ _) _⟩;unfold vldPose inR;rw [Bool.eq_iff_iff];simp;try omega)

def vldF (bi bw:Bool) (kind turn:Int) (bp pf pt lt fe ft:Bool):Bool :=
  bi && (bp && (bw &&
    (if kind=1 then fe && pt else if kind=2∨kind=4 then pf && (pt && !ft) else if kind=3 then pf && (lt && (turn == 0)) else false)))
def vldFactor (f:Factor):Bool:=vldF (inR f.id 0 99999) (inR f.weight 1 9999) f.kind f.pose.turn (vldPose f.pose.turn f.pose.x f.pose.y) (isPoseNm f.frm) (isPoseNm f.to) (isLandNm f.to) f.frm.toList.isEmpty (f.frm.toList == f.to.toList)
theorem vldFactor_eq (id kind:Int) (fr to:ByteArray) (t x y wt:Int):Hid (vldFactor ⟨id,kind,fr,to,⟨t,x,y⟩,wt⟩ =
    vldF (inR id 0 99999) (inR wt 1 9999) kind t (vldPose t x y) (isPoseNm fr) (isPoseNm to) (isLandNm to) fr.toList.isEmpty (fr.toList == to.toList)):=rfl
theorem spec_IsValidFactor_b (id kind:Int) (fr to:ByteArray) (t x y wt:Int) (w:World) (hf:fr.size≤4194304) (ht:to.size≤4194304) :
    Calls Tryz.prog 150 #[vFactor id kind fr to t x y wt] w fun e w'=>e=rBool (vldFactor ⟨id,kind,fr,to,⟨t,x,y⟩,wt⟩)∧Below w.heap.size w w':=by
  have E:=vldFactor_eq id kind fr to t x y wt
  generalize h1:vldPose t x y=bp at E
  generalize h2:isPoseNm fr=pf at E
  generalize h3:isPoseNm to=pt at E
  generalize h4:isLandNm to=lt at E
  generalize h5:fr.toList.isEmpty=fe at E
  generalize h6:(fr.toList == to.toList)=ft at E
  generalize h7:inR id 0 99999=bi at E
  generalize h8:inR wt 1 9999=bw at E
  have H1:=Lib.hid h1;have H2:=Lib.hid h2;have H3:=Lib.hid h3;have H4:=Lib.hid h4;have H7:=Lib.hid h7;have H8:=Lib.hid h8
  clear h1 h2 h3 h4 h7 h8
  go_enter Tryz.func150,Tryz.ntmps150
  go_wp2_with (first
    | (go_at_call 105;refine (l01In_c _ _ _ _).mono ?_;(first | rw [H7.out] | rw [H8.out]);rintro e w2 ⟨rfl,rfl⟩)
    | (go_at_call 172;refine (spec_IsValidPose_c _ _ _ _).mono ?_;rw [H1.out];rintro e w1 ⟨rfl,hb1⟩;obtain ⟨hc,hfz⟩:=bcell hb1)
    | (go_at_call 188;refine (spec_IsPoseName_c _ _ (by assumption)).mono ?_;(first | rw [H2.out] | rw [H3.out]);rintro e w2 ⟨rfl,rfl⟩)
    | (go_at_call 189;refine (spec_IsLandmarkName_c _ _ (by assumption)).mono ?_;rw [H4.out];rintro e w2 ⟨rfl,rfl⟩))
  all_goals (go_ret;refine ⟨ret_bool ?_,by repeat (first | exact Below.refl _ _ | refine bAlloc ?_ _ | refine bTrans ?_ hb1)⟩;rw [E.out];unfold vldF;simp_all)
theorem spec_IsValidFactor_c (id kind:Int) (fr to:ByteArray) (t x y wt:Int) (w:World) (hf:fr.size≤4194304) (ht:to.size≤4194304) :
    Calls Tryz.prog 150 #[vFactor id kind fr to t x y wt] w fun e w'=>e=rBool (vldFactor ⟨id,kind,fr,to,⟨t,x,y⟩,wt⟩)∧Below w.heap.size w w' :=
  spec_IsValidFactor_b id kind fr to t x y wt w (Nat.le_trans hf (by decide)) (Nat.le_trans ht (by decide))
theorem impl_IsValidFactor_b (id kind:Int) (fr to:ByteArray) (t x y wt:Int) (w:World) (hf:fr.size≤4194304) (ht:to.size≤4194304) :
    Calls Tryz.prog 93 #[vFactor id kind fr to t x y wt] w fun e w'=>e=rBool (vldFactor ⟨id,kind,fr,to,⟨t,x,y⟩,wt⟩)∧Below w.heap.size w w':=by
  have E:=vldFactor_eq id kind fr to t x y wt
  generalize h1:vldPose t x y=bp at E
  generalize h2:isPoseNm fr=pf at E
  generalize h3:isPoseNm to=pt at E
  generalize h4:isLandNm to=lt at E
  generalize h5:fr.toList.isEmpty=fe at E
  generalize h6:(fr.toList == to.toList)=ft at E
  have H1:=Lib.hid h1;have H2:=Lib.hid h2;have H3:=Lib.hid h3;have H4:=Lib.hid h4
  clear h1 h2 h3 h4
  go_enter Tryz.func93,Tryz.ntmps93
  go_wp2_with (first
    | (go_at_call 143;refine (impl_IsValidPose_c _ _ _ _).mono ?_;rw [H1.out];rintro e w1 ⟨rfl,hb1⟩;obtain ⟨hc,hfz⟩:=bcell hb1)
    | (go_at_call 144;refine (impl_IsPoseName_c _ _ (by assumption)).mono ?_;(first | rw [H2.out] | rw [H3.out]);rintro e w2 ⟨rfl,rfl⟩)
    | (go_at_call 145;refine (impl_IsLandmarkName_c _ _ (by assumption)).mono ?_;rw [H4.out];rintro e w2 ⟨rfl,rfl⟩))
  all_goals (go_ret;refine ⟨ret_bool ?_,by repeat (first | exact Below.refl _ _ | refine bAlloc ?_ _ | refine bTrans ?_ hb1)⟩;rw [E.out];unfold vldF inR;first | (simp_all;done) | (simp_all;omega))
theorem impl_IsValidFactor_c (id kind:Int) (fr to:ByteArray) (t x y wt:Int) (w:World) (hf:fr.size≤4194304) (ht:to.size≤4194304) :
    Calls Tryz.prog 93 #[vFactor id kind fr to t x y wt] w fun e w'=>e=rBool (vldFactor ⟨id,kind,fr,to,⟨t,x,y⟩,wt⟩)∧Below w.heap.size w w' :=
  impl_IsValidFactor_b id kind fr to t x y wt w (Nat.le_trans hf (by decide)) (Nat.le_trans ht (by decide))

def Factor.isZero (f:Factor):Bool:=(f.id == 0) && ((f.kind == 0) && (f.frm.toList.isEmpty && (f.to.toList.isEmpty && ((f.pose.turn == 0) && ((f.pose.x == 0) && ((f.pose.y == 0) && (f.weight == 0)))))))
def vldEntry (e:Entry):Bool:=if e.remove then inR e.id 0 99999 && e.factor.isZero else (e.id == 0) && vldFactor e.factor

theorem spec_IsValidEntry_b (rm:Bool) (eid id kind:Int) (fr to:ByteArray) (t x y wt:Int) (w:World) (hf:fr.size≤4194304) (ht:to.size≤4194304) :
    Calls Tryz.prog 161 #[vEntry rm eid id kind fr to t x y wt] w fun e w'=>e=rBool (vldEntry ⟨rm,eid,⟨id,kind,fr,to,⟨t,x,y⟩,wt⟩⟩)∧Below w.heap.size w w':=by
  have E:Hid (vldEntry ⟨rm,eid,⟨id,kind,fr,to,⟨t,x,y⟩,wt⟩⟩=if rm then inR eid 0 99999 && Factor.isZero ⟨id,kind,fr,to,⟨t,x,y⟩,wt⟩ else (eid == 0) && vldFactor ⟨id,kind,fr,to,⟨t,x,y⟩,wt⟩):=rfl
  generalize h1:vldFactor ⟨id,kind,fr,to,⟨t,x,y⟩,wt⟩=vf at E
  generalize h7:inR eid 0 99999=bi at E
  have H1:=Lib.hid h1;have H7:=Lib.hid h7
  clear h1 h7
  cases rm
  all_goals
    go_enter Tryz.func161,Tryz.ntmps161
    go_wp2_with (first
      | (go_at_call 105;refine (l01In_c _ _ _ _).mono ?_;rw [H7.out];rintro e w2 ⟨rfl,rfl⟩)
      | (go_at_call 150;refine (spec_IsValidFactor_b _ _ _ _ _ _ _ _ _ hf ht).mono ?_;rw [H1.out];rintro e w1 ⟨rfl,hb1⟩))
    all_goals (go_ret;refine ⟨ret_bool ?_,by repeat (first | exact Below.refl _ _ | refine bAlloc ?_ _ | refine bTrans ?_ hb1)⟩;rw [E.out];simp_all [Factor.isZero])
theorem spec_IsValidEntry_c (rm:Bool) (eid id kind:Int) (fr to:ByteArray) (t x y wt:Int) (w:World) (hf:fr.size≤4194304) (ht:to.size≤4194304) :
    Calls Tryz.prog 161 #[vEntry rm eid id kind fr to t x y wt] w fun e w'=>e=rBool (vldEntry ⟨rm,eid,⟨id,kind,fr,to,⟨t,x,y⟩,wt⟩⟩)∧Below w.heap.size w w' :=
  spec_IsValidEntry_b rm eid id kind fr to t x y wt w (Nat.le_trans hf (by decide)) (Nat.le_trans ht (by decide))
theorem impl_IsValidEntry_b (rm:Bool) (eid id kind:Int) (fr to:ByteArray) (t x y wt:Int) (w:World) (hf:fr.size≤4194304) (ht:to.size≤4194304) :
    Calls Tryz.prog 44 #[vEntry rm eid id kind fr to t x y wt] w fun e w'=>e=rBool (vldEntry ⟨rm,eid,⟨id,kind,fr,to,⟨t,x,y⟩,wt⟩⟩)∧Below w.heap.size w w':=by
  have E:Hid (vldEntry ⟨rm,eid,⟨id,kind,fr,to,⟨t,x,y⟩,wt⟩⟩=if rm then inR eid 0 99999 && Factor.isZero ⟨id,kind,fr,to,⟨t,x,y⟩,wt⟩ else (eid == 0) && vldFactor ⟨id,kind,fr,to,⟨t,x,y⟩,wt⟩):=rfl
  generalize h1:vldFactor ⟨id,kind,fr,to,⟨t,x,y⟩,wt⟩=vf at E
  have H1:=Lib.hid h1
  clear h1
  cases rm
  all_goals
    go_enter Tryz.func44,Tryz.ntmps44
    go_wp2_with (first
      | (go_at_call 93;refine (impl_IsValidFactor_b _ _ _ _ _ _ _ _ _ hf ht).mono ?_;rw [H1.out];rintro e w1 ⟨rfl,hb1⟩))
    all_goals (go_ret;refine ⟨ret_bool ?_,by repeat (first | exact Below.refl _ _ | refine bAlloc ?_ _ | refine bTrans ?_ hb1)⟩;first | (rw [E.out];simp_all [Factor.isZero,inR];done) | (rw [E.out];simp_all [Factor.isZero,inR];omega) | (simp_all [vldEntry,Factor.isZero,inR];done) | (simp_all [vldEntry,Factor.isZero,inR];omega))
theorem impl_IsValidEntry_c (rm:Bool) (eid id kind:Int) (fr to:ByteArray) (t x y wt:Int) (w:World) (hf:fr.size≤4194304) (ht:to.size≤4194304) :
    Calls Tryz.prog 44 #[vEntry rm eid id kind fr to t x y wt] w fun e w'=>e=rBool (vldEntry ⟨rm,eid,⟨id,kind,fr,to,⟨t,x,y⟩,wt⟩⟩)∧Below w.heap.size w w' :=
  impl_IsValidEntry_b rm eid id kind fr to t x y wt w (Nat.le_trans hf (by decide)) (Nat.le_trans ht (by decide))
def chkL:List UInt8→Int→Int
  | [],h=>h
  | b :: r,h=>chkL r ((31 * h+(b.toNat:Int)) % 65521)
def chk (s:ByteArray):Int:=chkL s.data.toList 7
def ChkInv (s:ByteArray) (k:Nat) (h:Int):Prop:=chk s=chkL (s.data.toList.drop k) h
theorem chk_next {s:ByteArray} {k:Nat} {h:Int} (hi:ChkInv s k h) (hk:k < s.size):ChkInv s (k+1) ((31 * h+(s[k].toNat:Int)) % 65521):=by
  unfold ChkInv at *
  rw [hi,sdrop s hk,chkL]
theorem chk_end {s:ByteArray} {k:Nat} {h:Int} (hi:ChkInv s k h) (hk:¬ k < s.size):h=chk s:=by
  unfold ChkInv at *
  rw [hi,List.drop_eq_nil_of_le (by simp;omega),chkL]
theorem chkL_bound:∀ (l:List UInt8) (h:Int),0≤h→h≤65520→0≤chkL l h∧chkL l h≤65520
  | [],h,h0,h1=>⟨h0,h1⟩
  | b :: r,h,h0,h1=>by rw [chkL];exact chkL_bound r _ (by omega) (by omega)
theorem chk_bound (s:ByteArray):0≤chk s∧chk s≤65520:=chkL_bound _ _ (by omega) (by omega)
theorem spec_Checksum_c (s:ByteArray) (w:World) (hs:s.size≤1073741824):Calls Tryz.prog 162 #[.string s] w fun e w'=>e=rInt (chk s)∧w=w':=by
  go_enter Tryz.func162,Tryz.ntmps162
  go_wp2
  go_loop [3,4] (fun h i=>∃ (k:Nat) (q:Int),k≤s.size∧i=.int .i64 k∧h=.int .i64 q∧0≤q∧q≤65520∧ChkInv s k q) (fun _ i=>s.size - (intOf i).toNat)
  case atStart=>exact ⟨0,7,by omega,rfl,rfl,by omega,by omega,rfl⟩
  case round =>
    obtain ⟨k,q,hk,rfl,rfl,hq0,hq1,hi⟩:=hrel
    by_cases hlt:k < s.size
    · have hn:=chk_next hi hlt
      have hb:=s[k].toNat_lt
      go_wp2
      go_round
      case rel=>exact ⟨k+1,(31 * q+(s[k].toNat:Int)) % 65521,by omega,by go_num,rfl,by omega,by omega,hn⟩
      case measure=>simp [intOf];omega
    · have he:=Lib.hid (chk_end hi hlt)
      go_wp2
      go_ret
      exact ⟨by rw [← he.out];rfl,rfl⟩
theorem impl_Checksum_c (s:ByteArray) (w:World) (hs:s.size≤1073741824):Calls Tryz.prog 47 #[.string s] w fun e w'=>e=rInt (chk s)∧w=w':=by
  go_enter Tryz.func47,Tryz.ntmps47
  go_wp2
  go_loop [3,4] (fun h i=>∃ (k:Nat) (q:Int),k≤s.size∧i=.int .i64 k∧h=.int .i64 q∧0≤q∧q≤65520∧ChkInv s k q) (fun _ i=>s.size - (intOf i).toNat)
  case atStart=>exact ⟨0,7,by omega,rfl,rfl,by omega,by omega,rfl⟩
  case round =>
    obtain ⟨k,q,hk,rfl,rfl,hq0,hq1,hi⟩:=hrel
    by_cases hlt:k < s.size
    · have hn:=chk_next hi hlt
      have hb:=s[k].toNat_lt
      go_wp2
      go_round
      case rel=>exact ⟨k+1,(31 * q+(s[k].toNat:Int)) % 65521,by omega,by go_num,rfl,by omega,by omega,hn⟩
      case measure=>simp [intOf];omega
    · have he:=Lib.hid (chk_end hi hlt)
      go_wp2
      go_ret
      exact ⟨by rw [← he.out];rfl,rfl⟩


end Go.Proofs.YtdfemnffpaopfaaGreatDoor
