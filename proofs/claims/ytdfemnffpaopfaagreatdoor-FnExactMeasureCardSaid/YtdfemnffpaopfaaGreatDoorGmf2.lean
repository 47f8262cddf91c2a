/- Texts of this proof, one behind the other: Mark, Mark2. -/
import Derived.Test.YtdfemnffpaopfaaGreatDoorProg
import Derived.Deep.RegionHeld3
import Derived.Test.YtdfemnffpaopfaaGreatDoorGmf1
namespace Go.Proofs.YtdfemnffpaopfaaGreatDoor
open Go.RowKit
set_option linter.unusedVariables false
set_option linter.unusedSimpArgs false
set_option maxHeartbeats 1600000
set_option maxRecDepth 100000
def mdig (n:Nat) (acc:List UInt8):List UInt8:=if n=0 then acc else mdig (n / 10) ((48+UInt8.ofNat (n % 10)) :: acc)
termination_by n
decreasing_by omega
def markTxt (k:Int):ByteArray:=if k≤0 then ⟨#[109,48]⟩ else ⟨(109 :: mdig k.toNat []).toArray⟩

theorem mstep (n:Nat) (acc:List UInt8) (h:0 < n):mdig n acc=mdig (n / 10) ((48+UInt8.ofNat (n % 10)) :: acc):=by
  rw [mdig,if_neg (by omega)]
def MB (n:Nat) (acc:List UInt8):Prop:=n * 10 ^ acc.length≤9223372036854775807
def MI (k:Int):Prop:=k≤9223372036854775807
theorem MB.zero {k:Int} (h:MI k):MB k.toNat []:=by
  have:k≤9223372036854775807:=h
  simp [MB];omega
theorem MB.len {n:Nat} {acc:List UInt8} (h:MB n acc) (hn:0 < n):acc.length≤18:=by
  have h':n * 10 ^ acc.length≤9223372036854775807:=h
  rcases Nat.lt_or_ge 18 acc.length with hl | hl
  · have h1:10 ^ 19≤10 ^ acc.length:=Nat.pow_le_pow_right (by omega) hl
    have h2:1 * 10 ^ acc.length≤n * 10 ^ acc.length:=Nat.mul_le_mul_right _ hn
    have h3:(10:Nat) ^ 19=10000000000000000000:=by decide
    omega
  · exact hl
theorem MB.next {n:Nat} {acc:List UInt8} (b:UInt8) (h:MB n acc):MB (n / 10) (b :: acc):=by
  have h':n * 10 ^ acc.length≤9223372036854775807:=h
  have h1:n / 10 * 10 ^ (acc.length+1)=(n / 10 * 10) * 10 ^ acc.length:=by rw [Nat.pow_succ,Nat.mul_comm (10 ^ acc.length) 10,Nat.mul_assoc]
  have h2:(n / 10 * 10) * 10 ^ acc.length≤n * 10 ^ acc.length:=Nat.mul_le_mul_right _ (Nat.div_mul_le_self n 10)
  unfold MB
  rw [List.length_cons,h1]
  omega
theorem MB.wrap {n:Nat} {acc:List UInt8} (h:MB n acc):wrap64 ((n:Int) / 10)=(n:Int) / 10:=by
  have h':n * 10 ^ acc.length≤9223372036854775807:=h
  have h1:n * 1≤n * 10 ^ acc.length:=Nat.mul_le_mul_left _ (Nat.pow_pos (by omega))
  exact IntWalk.wrap64_in _ ⟨by omega,by omega⟩
theorem mless {n:Nat} {acc:List UInt8} (h:MB n acc) (hp:0 < n):(intOf (.int .i64 (wrap64 ((n:Int) / 10)))).toNat < (intOf (.int .i64 (n:Int))).toNat:=by
  rw [h.wrap]
  show ((n:Int) / 10).toNat < (n:Int).toNat
  omega
set_option maxRecDepth 100000 in
theorem markText_c (k:Int) (w:World) (hk:MI k) :
    Calls Tryz.prog 115 #[.int .i64 k] w fun e w'=>e=.returned (.string (markTxt k))∧Below w.heap.size w w':=by
  by_cases h0:k≤0
  · go_enter Tryz.func115,Tryz.ntmps115
    go_wp2
    go_ret
    exact ⟨by simp [markTxt,h0],Below.refl _ _⟩
  · have hpos:0 < k:=by omega
    have kb:=fun (w:World) (n:Int)=>run_byte1 (P:=Tryz.prog) 22 9 5 5 Tryz.underlying22 Tryz.underlying5 Tryz.underlying9 w n
    go_enter Tryz.func115,Tryz.ntmps115
    go_wp2
    go_loopw [0,3] (fun i s wr=>∃ (n:Nat) (acc:List UInt8),i=.int .i64 n∧s=.string ⟨acc.toArray⟩∧acc.length≤19∧MB n acc∧Hid (mdig n acc=mdig k.toNat [])∧Below w.heap.size w wr) (fun i _ _=>(intOf i).toNat)
    case atStart=>exact ⟨k.toNat,[],by go_num,rfl,by simp,MB.zero hk,rfl,Below.refl _ _⟩
    case round =>
      obtain ⟨n,acc,rfl,rfl,hl,hm,he,hb⟩:=hrel
      by_cases hp:0 < n
      · have hl2:=hm.len hp
        have hst:=Lib.hid (mstep n acc hp)
        have hw:=hm.wrap
        go_wp2
        go_roundw
        case rel=>exact ⟨n / 10,(48+UInt8.ofNat (n % 10)) :: acc,by go_num,by rw [push_front],by simp;omega,hm.next _,by have:=he.out;rw [hst.out] at this;exact this,bAlloc hb _⟩
        case measure=>exact mless hm hp
      · have hfin:Hid (acc=mdig k.toNat []):=by have:=he.out;rw [mdig,if_pos (by omega)] at this;exact this
        go_wp2
        go_ret
        refine ⟨?_,hb⟩
        rw [push_front,hfin.out,markTxt,if_neg (by omega)]
        rfl

theorem sz_int:(Tryz.prog.info? 3).map (·.size)=some 1:=by kernel_rfl
theorem sz_str:(Tryz.prog.info? 9).map (·.size)=some 1:=by kernel_rfl
theorem MI.of {k:Int} (h:k≤1000000000000):MI k:=by unfold MI;omega
def mkCFactor (k:Int):List Value:=[.int .i64 (k),.int .i64 (k+1),.string (markTxt (k+2)),.string (markTxt (k+3)),.int .i64 (k+4),.int .i64 (k+5),.int .i64 (k+6),.int .i64 (k+7)]
def markFactor (k0:Int) (i:Nat):List Value:=mkCFactor (k0+8 * (i:Int))
set_option maxRecDepth 100000 in
theorem markFactorS_c (A:Option Addr) (n c B:Nat) (css:List (List Value)) (k0:Int) (w:World) (hn:n≤4194304) (hk0:0≤k0) (hk1:k0≤100000000000) (ho:Own w B 34 8 A n c css) :
    Calls Tryz.prog 114 #[.slice A n c,.int .i64 k0] w fun e w'=>e=rInt (k0+8 * n)∧Own w' B 34 8 A n c ((List.range n).map (markFactor k0))∧w.grownBy w' (ob A):=by
  have hlc:=Lib.hid ho.len
  go_enter Tryz.func114,Tryz.ntmps114
  go_wp2
  go_loopw [1,5] (fun q i wr=>∃ (k:Nat),k≤n∧i=.int .i64 k∧q=.int .i64 (k0+8 * k)∧Own wr B 34 8 A n c (Mrk (markFactor k0) css k)∧w.grownBy wr (ob A)) (fun _ i _=>n - (intOf i).toNat)
  case atStart=>exact ⟨0,by omega,rfl,by go_num,by rw [Mrk.zero];exact ho,World.grownBy.refl _ _⟩
  case round =>
    obtain ⟨k,hk,rfl,rfl,hown,hgr⟩:=hrel
    by_cases hlt:k < n
    · rcases hown.cases with ⟨_,h0,_⟩ | ⟨g,rfl,hgB,hgl,hnc,hcm⟩
      · omega
      clear ho
      obtain ⟨cs,hcs⟩:=Mrk.get_ (mk:=markFactor k0) hlc.out hlt
      obtain ⟨v0,v1,v2,v3,v4,v5,v6,v7,rfl⟩:=vlen8 (hown.each cs (List.mem_of_getElem? hcs))
      have tok0:True:=trivial
      go_wp2_with (first
        | (go_at_call 115;refine (markText_c _ _ (MI.of (by omega))).mono ?_;rintro e w2 ⟨rfl,hb2⟩;have hown2:=hown.below hb2;have hgr2:=gBelow hgr hb2;clear hown hgr hb2;have hown:=hown2;have hgr:=hgr2;clear hown2 hgr2)
        | (have _t:=tok0;refine wpList_store_cell rfl _ _ _ rfl B 34 8 n c g k 0 _ (by omega) (by omega) _ _ rfl (.int .i64 (k0+8 * (k:Int))) rfl rfl rfl (by first | exact sz_int | exact sz_str) hown hcs ?_;clear hown hcs;intro w1 hown hcs hg1;have hgr2:=gTrans hgr hg1;clear hgr hg1;have hgr:=hgr2;clear hgr2 tok0 _t;have tok1:True:=trivial)
        | (have _t:=tok1;refine wpList_store_cell rfl _ _ _ rfl B 34 8 n c g k 1 _ (by omega) (by omega) _ _ rfl (.int .i64 (k0+8 * (k:Int)+1)) rfl rfl rfl (by first | exact sz_int | exact sz_str) hown hcs ?_;clear hown hcs;intro w1 hown hcs hg1;have hgr2:=gTrans hgr hg1;clear hgr hg1;have hgr:=hgr2;clear hgr2 tok1 _t;have tok2:True:=trivial)
        | (have _t:=tok2;refine wpList_store_cell rfl _ _ _ rfl B 34 8 n c g k 2 _ (by omega) (by omega) _ _ rfl (.string (markTxt (k0+8 * (k:Int)+1+1))) rfl rfl rfl (by first | exact sz_int | exact sz_str) hown hcs ?_;clear hown hcs;intro w1 hown hcs hg1;have hgr2:=gTrans hgr hg1;clear hgr hg1;have hgr:=hgr2;clear hgr2 tok2 _t;have tok3:True:=trivial)
        | (have _t:=tok3;refine wpList_store_cell rfl _ _ _ rfl B 34 8 n c g k 3 _ (by omega) (by omega) _ _ rfl (.string (markTxt (k0+8 * (k:Int)+1+1+1))) rfl rfl rfl (by first | exact sz_int | exact sz_str) hown hcs ?_;clear hown hcs;intro w1 hown hcs hg1;have hgr2:=gTrans hgr hg1;clear hgr hg1;have hgr:=hgr2;clear hgr2 tok3 _t;have tok4:True:=trivial)
        | (have _t:=tok4;refine wpList_store_cell rfl _ _ _ rfl B 34 8 n c g k 4 _ (by omega) (by omega) _ _ rfl (.int .i64 (k0+8 * (k:Int)+1+1+1+1)) rfl rfl rfl (by first | exact sz_int | exact sz_str) hown hcs ?_;clear hown hcs;intro w1 hown hcs hg1;have hgr2:=gTrans hgr hg1;clear hgr hg1;have hgr:=hgr2;clear hgr2 tok4 _t;have tok5:True:=trivial)
        | (have _t:=tok5;refine wpList_store_cell rfl _ _ _ rfl B 34 8 n c g k 5 _ (by omega) (by omega) _ _ rfl (.int .i64 (k0+8 * (k:Int)+1+1+1+1+1)) rfl rfl rfl (by first | exact sz_int | exact sz_str) hown hcs ?_;clear hown hcs;intro w1 hown hcs hg1;have hgr2:=gTrans hgr hg1;clear hgr hg1;have hgr:=hgr2;clear hgr2 tok5 _t;have tok6:True:=trivial)
        | (have _t:=tok6;refine wpList_store_cell rfl _ _ _ rfl B 34 8 n c g k 6 _ (by omega) (by omega) _ _ rfl (.int .i64 (k0+8 * (k:Int)+1+1+1+1+1+1)) rfl rfl rfl (by first | exact sz_int | exact sz_str) hown hcs ?_;clear hown hcs;intro w1 hown hcs hg1;have hgr2:=gTrans hgr hg1;clear hgr hg1;have hgr:=hgr2;clear hgr2 tok6 _t;have tok7:True:=trivial)
        | (have _t:=tok7;refine wpList_store_cell rfl _ _ _ rfl B 34 8 n c g k 7 _ (by omega) (by omega) _ _ rfl (.int .i64 (k0+8 * (k:Int)+1+1+1+1+1+1+1)) rfl rfl rfl (by first | exact sz_int | exact sz_str) hown hcs ?_;clear hown hcs;intro w1 hown hcs hg1;have hgr2:=gTrans hgr hg1;clear hgr hg1;have hgr:=hgr2;clear hgr2 tok7 _t;have tok8:True:=trivial))
      simp only [List.set_set,List.set_cons_zero,List.set_cons_succ] at hown
      rw [Mrk.next hlc.out hlt (by simp [markFactor,mkCFactor,Int.add_assoc])] at hown
      go_roundw
      case rel=>exact ⟨k+1,by omega,by go_num,by first | go_num | (congr 1;omega),hown,hgr⟩
      case measure=>simp [intOf];omega
    · rw [Mrk.end_ hlc.out hlt hk] at hown
      go_wp2
      go_ret
      exact ⟨by rw [show k=n by omega];rfl,hown,hgr⟩


def mkCString (k:Int):List Value:=[.string (markTxt (k))]
def markString (k0:Int) (i:Nat):List Value:=mkCString (k0+1 * (i:Int))
set_option maxRecDepth 100000 in
theorem markStringS_c (A:Option Addr) (n c B:Nat) (css:List (List Value)) (k0:Int) (w:World) (hn:n≤4194304) (hk0:0≤k0) (hk1:k0≤100000000000) (ho:Own w B 9 1 A n c css) :
    Calls Tryz.prog 157 #[.slice A n c,.int .i64 k0] w fun e w'=>e=rInt (k0+1 * n)∧Own w' B 9 1 A n c ((List.range n).map (markString k0))∧w.grownBy w' (ob A):=by
  have hlc:=Lib.hid ho.len
  go_enter Tryz.func157,Tryz.ntmps157
  go_wp2
  go_loopw [1,5] (fun q i wr=>∃ (k:Nat),k≤n∧i=.int .i64 k∧q=.int .i64 (k0+1 * k)∧Own wr B 9 1 A n c (Mrk (markString k0) css k)∧w.grownBy wr (ob A)) (fun _ i _=>n - (intOf i).toNat)
  case atStart=>exact ⟨0,by omega,rfl,by go_num,by rw [Mrk.zero];exact ho,World.grownBy.refl _ _⟩
  case round =>
    obtain ⟨k,hk,rfl,rfl,hown,hgr⟩:=hrel
    by_cases hlt:k < n
    · rcases hown.cases with ⟨_,h0,_⟩ | ⟨g,rfl,hgB,hgl,hnc,hcm⟩
      · omega
      clear ho
      obtain ⟨cs,hcs⟩:=Mrk.get_ (mk:=markString k0) hlc.out hlt
      obtain ⟨v0,rfl⟩:=vlen1 (hown.each cs (List.mem_of_getElem? hcs))
      have tok0:True:=trivial
      go_wp2_with (first
        | (go_at_call 115;refine (markText_c _ _ (MI.of (by omega))).mono ?_;rintro e w2 ⟨rfl,hb2⟩;have hown2:=hown.below hb2;have hgr2:=gBelow hgr hb2;clear hown hgr hb2;have hown:=hown2;have hgr:=hgr2;clear hown2 hgr2)
        | (have _t:=tok0;refine wpList_store_cell rfl _ _ _ rfl B 9 1 n c g k 0 _ (by omega) (by omega) _ _ rfl (.string (markTxt (k0+(k:Int)))) rfl rfl rfl (by first | exact sz_int | exact sz_str) hown hcs ?_;clear hown hcs;intro w1 hown hcs hg1;have hgr2:=gTrans hgr hg1;clear hgr hg1;have hgr:=hgr2;clear hgr2 tok0 _t;have tok1:True:=trivial))
      simp only [List.set_set,List.set_cons_zero,List.set_cons_succ] at hown
      rw [Mrk.next hlc.out hlt (by simp [markString,mkCString,Int.add_assoc])] at hown
      go_roundw
      case rel=>exact ⟨k+1,by omega,by go_num,by first | go_num | (congr 1;omega),hown,hgr⟩
      case measure=>simp [intOf];omega
    · rw [Mrk.end_ hlc.out hlt hk] at hown
      go_wp2
      go_ret
      exact ⟨by rw [show k=n by omega];rfl,hown,hgr⟩

set_option maxRecDepth 100000 in
theorem heldFactorS_c (A:Option Addr) (n c:Nat) (k0:Int) (w:World) (hn:n≤4194304) (hk0:0≤k0) (hk1:k0≤100000000000) (hr:Row w A n 8 ((List.range n).map (markFactor k0))) :
    Calls Tryz.prog 117 #[.slice A n c,.int .i64 k0] w fun e w'=>e=rInt (k0+8 * n)∧Below w.heap.size w w':=by
  go_enter Tryz.func117,Tryz.ntmps117
  go_wp2
  go_loopw [1,5] (fun q i wr=>∃ (k:Nat),k≤n∧i=.int .i64 k∧q=.int .i64 (k0+8 * k)∧Below w.heap.size w wr) (fun _ i _=>n - (intOf i).toNat)
  case atStart=>exact ⟨0,by omega,rfl,by go_num,Below.refl _ _⟩
  case round =>
    obtain ⟨k,hk,rfl,rfl,hb⟩:=hrel
    by_cases hlt:k < n
    · obtain ⟨i,g,off,hi,rfl,hc⟩:=Row.at_ (hr.below hb) hlt
      obtain rfl:k=i:=by have:=hi.out;simp [hlt] at this;omega
      have g0:wr.cell? ⟨g,off+k * 8,none⟩=some (.int .i64 (k0+8 * (k:Int))):=by have:=hc 0 _ rfl;simpa [Int.add_assoc] using this
      have g1:wr.cell? ⟨g,off+k * 8+1,none⟩=some (.int .i64 (k0+8 * (k:Int)+1)):=by have:=hc 1 _ rfl;simpa [Int.add_assoc] using this
      have g2:wr.cell? ⟨g,off+k * 8+2,none⟩=some (.string (markTxt (k0+8 * (k:Int)+1+1))):=by have:=hc 2 _ rfl;simpa [Int.add_assoc] using this
      have g3:wr.cell? ⟨g,off+k * 8+3,none⟩=some (.string (markTxt (k0+8 * (k:Int)+1+1+1))):=by have:=hc 3 _ rfl;simpa [Int.add_assoc] using this
      have g4:wr.cell? ⟨g,off+k * 8+4,none⟩=some (.int .i64 (k0+8 * (k:Int)+1+1+1+1)):=by have:=hc 4 _ rfl;simpa [Int.add_assoc] using this
      have g5:wr.cell? ⟨g,off+k * 8+5,none⟩=some (.int .i64 (k0+8 * (k:Int)+1+1+1+1+1)):=by have:=hc 5 _ rfl;simpa [Int.add_assoc] using this
      have g6:wr.cell? ⟨g,off+k * 8+6,none⟩=some (.int .i64 (k0+8 * (k:Int)+1+1+1+1+1+1)):=by have:=hc 6 _ rfl;simpa [Int.add_assoc] using this
      have g7:wr.cell? ⟨g,off+k * 8+7,none⟩=some (.int .i64 (k0+8 * (k:Int)+1+1+1+1+1+1+1)):=by have:=hc 7 _ rfl;simpa [Int.add_assoc] using this
      clear hc hr
      have z0:(0:Int)≤(k:Int):=by omega
      have z1:(k:Int) < (n:Int):=by omega
      go_wp2_with fail
      go_region_held3 (fun w'=>w'.cell? ⟨g,off+k * 8+2,none⟩=some (.string (markTxt (k0+8 * (k:Int)+1+1)))∧w'.cell? ⟨g,off+k * 8+3,none⟩=some (.string (markTxt (k0+8 * (k:Int)+1+1+1)))∧w'.cell? ⟨g,off+k * 8+4,none⟩=some (.int .i64 (k0+8 * (k:Int)+1+1+1+1))∧w'.cell? ⟨g,off+k * 8+5,none⟩=some (.int .i64 (k0+8 * (k:Int)+1+1+1+1+1))∧w'.cell? ⟨g,off+k * 8+6,none⟩=some (.int .i64 (k0+8 * (k:Int)+1+1+1+1+1+1))∧w'.cell? ⟨g,off+k * 8+7,none⟩=some (.int .i64 (k0+8 * (k:Int)+1+1+1+1+1+1+1))) (first | go_keep | ((repeat' apply And.intro) <;> exact bCell hb1 (by assumption))) ((go_at_call 115;refine (markText_c _ _ (MI.of (by omega))).mono ?_;rintro e w1 ⟨rfl,hb1⟩))
      have g3:w1.cell? ⟨g,off+k * 8+3,none⟩=some (.string (markTxt (k0+8 * (k:Int)+1+1+1))):=bCell hb1 g3
      have g4:w1.cell? ⟨g,off+k * 8+4,none⟩=some (.int .i64 (k0+8 * (k:Int)+1+1+1+1)):=bCell hb1 g4
      have g5:w1.cell? ⟨g,off+k * 8+5,none⟩=some (.int .i64 (k0+8 * (k:Int)+1+1+1+1+1)):=bCell hb1 g5
      have g6:w1.cell? ⟨g,off+k * 8+6,none⟩=some (.int .i64 (k0+8 * (k:Int)+1+1+1+1+1+1)):=bCell hb1 g6
      have g7:w1.cell? ⟨g,off+k * 8+7,none⟩=some (.int .i64 (k0+8 * (k:Int)+1+1+1+1+1+1+1)):=bCell hb1 g7
      have hb:=bTrans (bDrew hb) hb1
      go_wp2_with fail
      go_region_held3 (fun w'=>w'.cell? ⟨g,off+k * 8+3,none⟩=some (.string (markTxt (k0+8 * (k:Int)+1+1+1)))∧w'.cell? ⟨g,off+k * 8+4,none⟩=some (.int .i64 (k0+8 * (k:Int)+1+1+1+1))∧w'.cell? ⟨g,off+k * 8+5,none⟩=some (.int .i64 (k0+8 * (k:Int)+1+1+1+1+1))∧w'.cell? ⟨g,off+k * 8+6,none⟩=some (.int .i64 (k0+8 * (k:Int)+1+1+1+1+1+1))∧w'.cell? ⟨g,off+k * 8+7,none⟩=some (.int .i64 (k0+8 * (k:Int)+1+1+1+1+1+1+1))) (first | go_keep | ((repeat' apply And.intro) <;> exact bCell hb2 (by assumption))) ((go_at_call 115;refine (markText_c _ _ (MI.of (by omega))).mono ?_;rintro e w2 ⟨rfl,hb2⟩))
      have g4:w2.cell? ⟨g,off+k * 8+4,none⟩=some (.int .i64 (k0+8 * (k:Int)+1+1+1+1)):=bCell hb2 g4
      have g5:w2.cell? ⟨g,off+k * 8+5,none⟩=some (.int .i64 (k0+8 * (k:Int)+1+1+1+1+1)):=bCell hb2 g5
      have g6:w2.cell? ⟨g,off+k * 8+6,none⟩=some (.int .i64 (k0+8 * (k:Int)+1+1+1+1+1+1)):=bCell hb2 g6
      have g7:w2.cell? ⟨g,off+k * 8+7,none⟩=some (.int .i64 (k0+8 * (k:Int)+1+1+1+1+1+1+1)):=bCell hb2 g7
      have hb:=bTrans (bDrew hb) hb2
      go_wp2_with fail
      go_roundw
      case rel=>exact ⟨k+1,by omega,by go_num,by first | go_num | (congr 1;omega),hb⟩
      case measure=>simp [intOf];omega
    · go_wp2
      go_ret
      exact ⟨by rw [show k=n by omega];rfl,hb⟩


set_option maxRecDepth 100000 in
theorem heldStringS_c (A:Option Addr) (n c:Nat) (k0:Int) (w:World) (hn:n≤4194304) (hk0:0≤k0) (hk1:k0≤100000000000) (hr:Row w A n 1 ((List.range n).map (markString k0))) :
    Calls Tryz.prog 159 #[.slice A n c,.int .i64 k0] w fun e w'=>e=rInt (k0+1 * n)∧Below w.heap.size w w':=by
  go_enter Tryz.func159,Tryz.ntmps159
  go_wp2
  go_loopw [1,5] (fun q i wr=>∃ (k:Nat),k≤n∧i=.int .i64 k∧q=.int .i64 (k0+1 * k)∧Below w.heap.size w wr) (fun _ i _=>n - (intOf i).toNat)
  case atStart=>exact ⟨0,by omega,rfl,by go_num,Below.refl _ _⟩
  case round =>
    obtain ⟨k,hk,rfl,rfl,hb⟩:=hrel
    by_cases hlt:k < n
    · obtain ⟨i,g,off,hi,rfl,hc⟩:=Row.at_ (hr.below hb) hlt
      obtain rfl:k=i:=by have:=hi.out;simp [hlt] at this;omega
      have g0:wr.cell? ⟨g,off+k,none⟩=some (.string (markTxt (k0+(k:Int)))):=by have:=hc 0 _ rfl;simpa [Int.add_assoc] using this
      clear hc hr
      have z0:(0:Int)≤(k:Int):=by omega
      have z1:(k:Int) < (n:Int):=by omega
      go_wp2_with fail
      go_region_held3 (fun w'=>w'.cell? ⟨g,off+k,none⟩=some (.string (markTxt (k0+(k:Int))))) (first | go_keep | ((repeat' apply And.intro) <;> exact bCell hb1 (by assumption))) ((go_at_call 115;refine (markText_c _ _ (MI.of (by omega))).mono ?_;rintro e w1 ⟨rfl,hb1⟩))
      have hb:=bTrans (bDrew hb) hb1
      go_wp2_with fail
      go_roundw
      case rel=>exact ⟨k+1,by omega,by go_num,by first | go_num | (congr 1;omega),hb⟩
      case measure=>simp [intOf];omega
    · go_wp2
      go_ret
      exact ⟨by rw [show k=n by omega];rfl,hb⟩

theorem sz_bool:(Tryz.prog.info? 4).map (·.size)=some 1:=by kernel_rfl
def mkCPacket (k:Int):List Value:=[.bool (k % 3 == 0),.int .i64 (k+1),.string (markTxt (k+2)),.int .i64 (k+3)]
def markPacket (k0:Int) (i:Nat):List Value:=mkCPacket (k0+4 * (i:Int))
set_option maxRecDepth 100000 in
theorem markPacketS_c (A:Option Addr) (n c B:Nat) (css:List (List Value)) (k0:Int) (w:World) (hn:n≤4194304) (hk0:0≤k0) (hk1:k0≤100000000000) (ho:Own w B 164 4 A n c css) :
    Calls Tryz.prog 158 #[.slice A n c,.int .i64 k0] w fun e w'=>e=rInt (k0+4 * n)∧Own w' B 164 4 A n c ((List.range n).map (markPacket k0))∧w.grownBy w' (ob A):=by
  have hlc:=Lib.hid ho.len
  go_enter Tryz.func158,Tryz.ntmps158
  go_wp2
  go_loopw [1,5] (fun q i wr=>∃ (k:Nat),k≤n∧i=.int .i64 k∧q=.int .i64 (k0+4 * k)∧Own wr B 164 4 A n c (Mrk (markPacket k0) css k)∧w.grownBy wr (ob A)) (fun _ i _=>n - (intOf i).toNat)
  case atStart=>exact ⟨0,by omega,rfl,by go_num,by rw [Mrk.zero];exact ho,World.grownBy.refl _ _⟩
  case round =>
    obtain ⟨k,hk,rfl,rfl,hown,hgr⟩:=hrel
    by_cases hlt:k < n
    · rcases hown.cases with ⟨_,h0,_⟩ | ⟨g,rfl,hgB,hgl,hnc,hcm⟩
      · omega
      clear ho
      obtain ⟨cs,hcs⟩:=Mrk.get_ (mk:=markPacket k0) hlc.out hlt
      obtain ⟨v0,v1,v2,v3,rfl⟩:=vlen4 (hown.each cs (List.mem_of_getElem? hcs))
      have tok0:True:=trivial
      go_wp2_with (first
        | (go_at_call 115;refine (markText_c _ _ (MI.of (by omega))).mono ?_;rintro e w2 ⟨rfl,hb2⟩;have hown2:=hown.below hb2;have hgr2:=gBelow hgr hb2;clear hown hgr hb2;have hown:=hown2;have hgr:=hgr2;clear hown2 hgr2)
        | (have _t:=tok0;refine wpList_store_cell rfl _ _ _ rfl B 164 4 n c g k 0 _ (by omega) (by omega) _ _ rfl (.bool ((k0+4 * (k:Int)) % 3 == 0)) rfl rfl rfl (by first | exact sz_int | exact sz_str | exact sz_bool) hown hcs ?_;clear hown hcs;intro w1 hown hcs hg1;have hgr2:=gTrans hgr hg1;clear hgr hg1;have hgr:=hgr2;clear hgr2 tok0 _t;have tok1:True:=trivial)
        | (have _t:=tok1;refine wpList_store_cell rfl _ _ _ rfl B 164 4 n c g k 1 _ (by omega) (by omega) _ _ rfl (.int .i64 (k0+4 * (k:Int)+1)) rfl rfl rfl (by first | exact sz_int | exact sz_str | exact sz_bool) hown hcs ?_;clear hown hcs;intro w1 hown hcs hg1;have hgr2:=gTrans hgr hg1;clear hgr hg1;have hgr:=hgr2;clear hgr2 tok1 _t;have tok2:True:=trivial)
        | (have _t:=tok2;refine wpList_store_cell rfl _ _ _ rfl B 164 4 n c g k 2 _ (by omega) (by omega) _ _ rfl (.string (markTxt (k0+4 * (k:Int)+1+1))) rfl rfl rfl (by first | exact sz_int | exact sz_str | exact sz_bool) hown hcs ?_;clear hown hcs;intro w1 hown hcs hg1;have hgr2:=gTrans hgr hg1;clear hgr hg1;have hgr:=hgr2;clear hgr2 tok2 _t;have tok3:True:=trivial)
        | (have _t:=tok3;refine wpList_store_cell rfl _ _ _ rfl B 164 4 n c g k 3 _ (by omega) (by omega) _ _ rfl (.int .i64 (k0+4 * (k:Int)+1+1+1)) rfl rfl rfl (by first | exact sz_int | exact sz_str | exact sz_bool) hown hcs ?_;clear hown hcs;intro w1 hown hcs hg1;have hgr2:=gTrans hgr hg1;clear hgr hg1;have hgr:=hgr2;clear hgr2 tok3 _t;have tok4:True:=trivial))
      simp only [List.set_set,List.set_cons_zero,List.set_cons_succ] at hown
      rw [Mrk.next hlc.out hlt (by simp [markPacket,mkCPacket,Int.add_assoc])] at hown
      go_roundw
      case rel=>exact ⟨k+1,by omega,by go_num,by first | go_num | (congr 1;omega),hown,hgr⟩
      case measure=>simp [intOf];omega
    · rw [Mrk.end_ hlc.out hlt hk] at hown
      go_wp2
      go_ret
      exact ⟨by rw [show k=n by omega];rfl,hown,hgr⟩

set_option maxRecDepth 100000 in
theorem heldPacketS_c (A:Option Addr) (n c:Nat) (k0:Int) (w:World) (hn:n≤4194304) (hk0:0≤k0) (hk1:k0≤100000000000) (hr:Row w A n 4 ((List.range n).map (markPacket k0))) :
    Calls Tryz.prog 160 #[.slice A n c,.int .i64 k0] w fun e w'=>e=rInt (k0+4 * n)∧Below w.heap.size w w':=by
  go_enter Tryz.func160,Tryz.ntmps160
  go_wp2
  go_loopw [1,5] (fun q i wr=>∃ (k:Nat),k≤n∧i=.int .i64 k∧q=.int .i64 (k0+4 * k)∧Below w.heap.size w wr) (fun _ i _=>n - (intOf i).toNat)
  case atStart=>exact ⟨0,by omega,rfl,by go_num,Below.refl _ _⟩
  case round =>
    obtain ⟨k,hk,rfl,rfl,hb⟩:=hrel
    by_cases hlt:k < n
    · obtain ⟨i,g,off,hi,rfl,hc⟩:=Row.at_ (hr.below hb) hlt
      obtain rfl:k=i:=by have:=hi.out;simp [hlt] at this;omega
      have g0:wr.cell? ⟨g,off+k * 4,none⟩=some (.bool ((k0+4 * (k:Int)) % 3 == 0)):=by have:=hc 0 _ rfl;simpa [Int.add_assoc] using this
      have g1:wr.cell? ⟨g,off+k * 4+1,none⟩=some (.int .i64 (k0+4 * (k:Int)+1)):=by have:=hc 1 _ rfl;simpa [Int.add_assoc] using this
      have g2:wr.cell? ⟨g,off+k * 4+2,none⟩=some (.string (markTxt (k0+4 * (k:Int)+1+1))):=by have:=hc 2 _ rfl;simpa [Int.add_assoc] using this
      have g3:wr.cell? ⟨g,off+k * 4+3,none⟩=some (.int .i64 (k0+4 * (k:Int)+1+1+1)):=by have:=hc 3 _ rfl;simpa [Int.add_assoc] using this
      clear hc hr
      have z0:(0:Int)≤(k:Int):=by omega
      have z1:(k:Int) < (n:Int):=by omega
      go_wp2_with fail
      go_region_held3 (fun w'=>w'.cell? ⟨g,off+k * 4+2,none⟩=some (.string (markTxt (k0+4 * (k:Int)+1+1)))∧w'.cell? ⟨g,off+k * 4+3,none⟩=some (.int .i64 (k0+4 * (k:Int)+1+1+1))) (first | go_keep | ((repeat' apply And.intro) <;> exact bCell hb1 (by assumption))) ((go_at_call 115;refine (markText_c _ _ (MI.of (by omega))).mono ?_;rintro e w1 ⟨rfl,hb1⟩))
      have g3:w1.cell? ⟨g,off+k * 4+3,none⟩=some (.int .i64 (k0+4 * (k:Int)+1+1+1)):=bCell hb1 g3
      have hb:=bTrans (bDrew hb) hb1
      go_wp2_with fail
      go_roundw
      case rel=>exact ⟨k+1,by omega,by go_num,by first | go_num | (congr 1;omega),hb⟩
      case measure=>simp [intOf];omega
    · go_wp2
      go_ret
      exact ⟨by rw [show k=n by omega];rfl,hb⟩







end Go.Proofs.YtdfemnffpaopfaaGreatDoor
