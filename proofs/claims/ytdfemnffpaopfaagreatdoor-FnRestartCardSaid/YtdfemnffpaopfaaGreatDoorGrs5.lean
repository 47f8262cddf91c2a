/- Texts of this proof, one behind the other: Draw. -/
import Derived.BigQuiet
import Derived.Lib.Hide
import Derived.Test.YtdfemnffpaopfaaGreatDoorGrs1
import Derived.Test.YtdfemnffpaopfaaGreatDoorGrs4
namespace Go.Proofs.YtdfemnffpaopfaaGreatDoor
open Go.RowKit
set_option linter.unusedVariables false
set_option linter.unusedSimpArgs false
set_option maxHeartbeats 1000000
set_option maxRecDepth 100000
def m255 (y:Int):Int:=bits .and .i64 y 255
theorem m255_eq (y:Int):bits .and .i64 y 255=m255 y:=rfl
theorem m255_range (y:Int):0≤m255 y∧m255 y≤255:=by
  have e:m255 y=IntKind.i64.wrap ((BitVec.ofInt 64 y &&& BitVec.ofInt 64 255).toNat:Int):=rfl
  have h:(BitVec.ofInt 64 y &&& BitVec.ofInt 64 255).toNat≤255:=by
    rw [BitVec.toNat_and]
    exact Nat.and_le_right
  rw [e,IntKind.wrap_i64]
  omega
def m30 (y:Int):Int:=bits .and .i64 y 1073741823
theorem m30_eq (y:Int):bits .and .i64 y 1073741823=m30 y:=rfl
def Bytes (w:World) (A:Option Addr) (n:Nat):Prop:=∀ i,i < n→∃ g off x,A=some ⟨g,off,none⟩∧0≤x∧x≤255∧w.cell? ⟨g,off+i,none⟩=some (.int .u8 x)
theorem Bytes.below {w w':World} {A:Option Addr} {n:Nat} (h:Bytes w A n) (hb:Below w.heap.size w w'):Bytes w' A n:=fun i hi=>by
  obtain ⟨g,off,x,h1,h2,h3,h4⟩:=h i hi
  exact ⟨g,off,x,h1,h2,h3,bCell hb h4⟩
structure Cur (W w:World) (b:Nat) (A:Option Addr) (n c:Nat):Prop where
  hB:Below W.heap.size W w
  hb:W.heap.size≤b
  c0:w.cell? ⟨b,0,none⟩=some (.slice A n c)
  c1:∃ i:Nat,i≤n∧w.cell? ⟨b,1,none⟩=some (.int .i64 i)
  c2:∃ h:Int,w.cell? ⟨b,2,none⟩=some (.int .i64 h)
  fz:∀ o,w.frozen? ⟨b,o,none⟩=false
theorem Cur.lt {W w:World} {b:Nat} {A:Option Addr} {n c:Nat} (h:Cur W w b A n c):b < w.heap.size:=cell_lt h.c0
theorem Cur.below {W w w':World} {b:Nat} {A:Option Addr} {n c:Nat} (h:Cur W w b A n c) (hb:Below w.heap.size w w'):Cur W w' b A n c:=by
  obtain ⟨i,hi,h1⟩:=h.c1
  obtain ⟨k,h2⟩:=h.c2
  exact ⟨bTrans h.hB hb,h.hb,bCell hb h.c0,⟨i,hi,bCell hb h1⟩,⟨k,bCell hb h2⟩,fun o=>(bBoxF hb b h.lt o).trans (h.fz o)⟩
theorem Upd.drewN {fs:List Nat} {a w:World} (h:Upd fs a w) (n:Nat):Upd fs a (w.drewN n):=⟨h.os,h.tape,h.output,h.size,h.block⟩
theorem l01Byte_c {W w:World} {b:Nat} {A:Option Addr} {n c:Nat} (hy:Bytes W A n) (hn:n≤4194304) (h:Cur W w b A n c) :
    Calls Tryz.prog 43 #[.pointer (some ⟨b,0,none⟩)] w fun e w'=>∃ x,e=rInt x∧0≤x∧x≤255∧Cur W w' b A n c∧Upd [b] w w':=by
  obtain ⟨i,hi,h1⟩:=h.c1
  obtain ⟨k,h2⟩:=h.c2
  have h0:=h.c0
  have hf:=h.fz
  have hl:=h.lt
  have hme:=m255_eq
  have HC:=Lib.hid h
  have hbW:=h.hb
  have fin:∀ w',Upd [b] w w'→w'.cell? ⟨b,0,none⟩=some (.slice A n c)→(∃ i:Nat,i≤n∧w'.cell? ⟨b,1,none⟩=some (.int .i64 i))→(∃ h:Int,w'.cell? ⟨b,2,none⟩=some (.int .i64 h))→(∀ o,w'.frozen? ⟨b,o,none⟩=false)→Cur W w' b A n c∧Upd [b] w w' :=
    fun w' u a0 a1 a2 a3=>⟨⟨bUpd HC.out.hB u (by simpa using hbW),hbW,a0,a1,a2,a3⟩,u⟩
  have FIN:=Lib.hid fin
  clear fin
  by_cases hin:i < n
  · obtain ⟨g,off,x0,hA,hx0,hx1,hxW⟩:=hy i hin
    have hgb:g≠b:=by have:=cell_lt hxW;simp only at this;omega
    have hx:=bCell h.hB hxW
    subst hA
    clear hxW h hy
    have hd:decide ((i:Int) < (n:Int))=true:=by simp;omega
    have hi0:(0:Int)≤(i:Int):=by omega
    have hi1:(i:Int) < (n:Int):=by omega
    go_enter Tryz.func43,Tryz.ntmps43
    go_wp2_with fail
    go_quiet (fail)
    go_wp2_with fail
    go_quiet (fail)
    go_wp2_with fail
    go_quiet (fail)
    go_wp2_with fail
    go_ret
    refine ⟨_,rfl,(m255_range _).1,(m255_range _).2,FIN.out _ ?_ ?_ ?_ ?_ ?_⟩
    · exact (((Upd.refl [b] w).set_in (p:=⟨b,2,none⟩) (by simp) _).drewN _).set_in (p:=⟨b,1,none⟩) (by simp) _
    · go_simp
    · exact ⟨i+1,by omega,by go_simp⟩
    · exact ⟨wrap64 (wrap64 (k * 6364136223846793005)+1442695040888963407),by go_simp⟩
    · intro o
      go_simp
  · clear h hy
    have hd:decide ((i:Int) < (n:Int))=false:=by simp;omega
    go_enter Tryz.func43,Tryz.ntmps43
    go_wp2_with fail
    go_quiet (fail)
    go_wp2_with fail
    go_quiet (fail)
    go_wp2_with fail
    go_ret
    refine ⟨_,rfl,(m255_range _).1,(m255_range _).2,FIN.out _ ?_ ?_ ?_ ?_ ?_⟩
    · exact (((Upd.refl [b] w).set_in (p:=⟨b,2,none⟩) (by simp) _).drewN _).drewN _
    · go_simp
    · exact ⟨i,hi,by go_simp⟩
    · exact ⟨wrap64 (wrap64 (k * 6364136223846793005)+1442695040888963407),by go_simp⟩
    · intro o
      go_simp
theorem l01New_c {W w:World} {A:Option Addr} {n c:Nat} (hB:Below W.heap.size W w) (hy:Bytes W A n) (hn:n≤4194304) :
    Calls Tryz.prog 32 #[.slice A n c] w fun e w'=>∃ b,e=.returned (.pointer (some ⟨b,0,none⟩))∧w.heap.size≤b∧Cur W w' b A n c∧Below w.heap.size w w':=by
  have hyw:=Lib.hid (hy.below hB)
  have hme:=m30_eq
  go_enter Tryz.func32,Tryz.ntmps32
  go_wp2
  go_loopw [3,4] (fun h i wr=>∃ (k:Nat) (v:Int),k≤n∧i=.int .i64 (k:Int)∧h=.int .i64 v∧Below w.heap.size w wr) (fun _ i _=>n - (intOf i).toNat)
  case atStart=>exact ⟨0,_,by omega,rfl,rfl,Below.refl _ _⟩
  case round =>
    obtain ⟨k,v,hk,rfl,rfl,hb⟩:=hrel
    by_cases hlt:k < n∧k < 4000
    · obtain ⟨hk1,hk2⟩:=hlt
      obtain ⟨g,off,x0,hA,hx0,hx1,hx⟩:=hyw.out.below hb k hk1
      subst hA
      have hi0:(0:Int)≤(k:Int):=by omega
      have hi1:(k:Int) < (n:Int):=by omega
      have hi2:(k:Int) < 4000:=by omega
      go_wp2
      exact ⟨⟨k+1,_,by omega,by simp,rfl,hb⟩,by simp only [intOf];omega⟩
    · have hcases:decide ((k:Int) < (n:Int))=false∨(decide ((k:Int) < (n:Int))=true∧decide ((k:Int) < 4000)=false):=by
        simp;omega
      rcases hcases with h1 | ⟨h1,h2⟩
      · go_wp2
        all_goals
          refine bodyPost_ret (v:=.pointer (some ⟨wr.heap.size,0,none⟩)) (by simp [*,results,Tryz.results32,go_sem]) rfl ?_
          refine ⟨wr.heap.size,rfl,by have:=hb.size;omega,?_,bAlloc hb _⟩
          have hBw:Below W.heap.size W (wr.alloc (.cells #[.slice A n c,.int .i64 0,.int .i64 v] 119)):=bAlloc (bTrans hB hb) _
          exact ⟨hBw,by have:=hB.size;have:=hb.size;omega,by go_simp,⟨0,by omega,by go_simp⟩,⟨v,by go_simp⟩,fun o=>by go_simp⟩
      · go_wp2
        all_goals
          refine bodyPost_ret (v:=.pointer (some ⟨wr.heap.size,0,none⟩)) (by simp [*,results,Tryz.results32,go_sem]) rfl ?_
          refine ⟨wr.heap.size,rfl,by have:=hb.size;omega,?_,bAlloc hb _⟩
          have hBw:Below W.heap.size W (wr.alloc (.cells #[.slice A n c,.int .i64 0,.int .i64 v] 119)):=bAlloc (bTrans hB hb) _
          exact ⟨hBw,by have:=hB.size;have:=hb.size;omega,by go_simp,⟨0,by omega,by go_simp⟩,⟨v,by go_simp⟩,fun o=>by go_simp⟩
theorem bUpd1 {W w w':World} {b:Nat} (h:Below W.heap.size W w) (hu:Upd [b] w w') (hb:W.heap.size≤b):Below W.heap.size W w':=bUpd h hu (by simpa using hb)
theorem l01Below_c {W w:World} {b:Nat} {A:Option Addr} {n c:Nat} (hy:Bytes W A n) (hn:n≤4194304) (h:Cur W w b A n c) (m:Int) (h0:0 < m) (h1:m≤256) :
    Calls Tryz.prog 79 #[.pointer (some ⟨b,0,none⟩),.int .i64 m] w fun e w'=>∃ x,e=rInt x∧0≤x∧x < m∧Cur W w' b A n c∧Upd [b] w w':=by
  have HC:=Lib.hid h
  have hy':=Lib.hid hy
  clear h hy
  have hm0:¬ m≤0:=by omega
  have hmz:m≠0:=by omega
  go_enter Tryz.func79,Tryz.ntmps79
  go_wp2_with (go_at_call 43;refine (l01Byte_c hy'.out hn HC.out).mono ?_;rintro e w1 ⟨x,rfl,hx0,hx1,hc1,hu1⟩)
  go_ret
  exact ⟨_,rfl,Int.emod_nonneg _ hmz,Int.emod_lt_of_pos _ h0,hc1,hu1⟩
theorem l32New_c {W w:World} {A:Option Addr} {n c:Nat} (hB:Below W.heap.size W w) (hy:Bytes W A n) (hn:n≤4194304) (m:Nat) (hm:m≤4194304) :
    Calls Tryz.prog 42 #[.slice A n c,.int .i64 (m:Int)] w fun e w'=>∃ b,e=.returned (.pointer (some ⟨b,0,none⟩))∧w.heap.size≤b∧Cur W w' b A n c∧Below w.heap.size w w':=by
  have hy':=Lib.hid hy
  have HB:=Lib.hid hB
  clear hy hB
  go_enter Tryz.func42,Tryz.ntmps42
  go_wp2_with (go_at_call 32;refine (l01New_c (c:=c) HB.out hy'.out hn).mono ?_;rintro e w1 ⟨b,rfl,hb,hc1,hb1⟩)
  go_loopw [6] (fun i wr=>∃ (k:Nat),k≤m∧i=.int .i64 (k:Int)∧Cur W wr b A n c∧Below w.heap.size w wr) (fun i _=>m - (intOf i).toNat)
  case atStart=>exact ⟨0,by omega,rfl,hc1,hb1⟩
  case round =>
    obtain ⟨k,hk,rfl,hc,hbb⟩:=hrel
    have HC:=Lib.hid hc
    clear hc hc1
    by_cases hlt:k < m
    · have hi1:(k:Int) < (m:Int):=by omega
      go_wp2_with (go_at_call 43;refine (l01Byte_c hy'.out hn HC.out).mono ?_;rintro e w2 ⟨x,rfl,hx0,hx1,hc2,hu2⟩)
      exact ⟨⟨k+1,by omega,by simp,hc2,bUpd1 hbb hu2 hb⟩,by simp only [intOf];omega⟩
    · go_wp2
      go_ret
      exact ⟨b,rfl,hb,HC.out,hbb⟩
end Go.Proofs.YtdfemnffpaopfaaGreatDoor
