/- Texts of this proof, one behind the other: Sz, To. -/
import Derived.Test.YtdfemnffpaopfaaGreatDoorProg
import Derived.Test.YtdfemnffpaopfaaGreatDoorGmf1
namespace Go.Proofs.YtdfemnffpaopfaaGreatDoor
open Go.RowKit
set_option linter.unusedVariables false
set_option linter.unusedSimpArgs false
set_option maxHeartbeats 400000
set_option maxRecDepth 100000
theorem szFactor_c (id:Int) (kind:Int) (fr:ByteArray) (to:ByteArray) (t:Int) (x:Int) (y:Int) (wt:Int) (left:Int) (w:World) (h1:0≤left) (h2:left≤4194304) (h_fr:fr.size≤maxLen) (h_to:to.size≤maxLen) :
    Calls Tryz.prog 25 #[vFactor id kind fr to t x y wt,.int .i64 left] w fun e w'=>SzPost left (fr.size+to.size) e∧Below w.heap.size w w':=by
  unfold maxLen at h_fr h_to
  go_enter Tryz.func25,Tryz.ntmps25
  go_wp2
  all_goals (go_ret;exact ⟨⟨_,rfl,by unfold Hid;omega⟩,bAlloc (Below.refl _ _) _⟩)

theorem szFactorS_c (A:Option Addr) (n c:Nat) (l:List Factor) (left:Int) (w:World) (h1:0≤left) (h2:left≤4194304) (hn:n≤maxLen) (hr:RowF w A n l) (hs:∀ f∈l,f.frm.size≤maxLen∧f.to.size≤maxLen) :
    Calls Tryz.prog 148 #[.slice A n c,.int .i64 left] w fun e w'=>SzPost left (n+sumBulk Factor.bulk l) e∧Below w.heap.size w w':=by
  unfold maxLen at hn
  go_enter Tryz.func148,Tryz.ntmps148
  go_wp2
  · go_ret
    exact ⟨⟨_,rfl,.inl rfl⟩,Below.refl _ _⟩
  · go_loopw [1,5,23] (fun le i t wr=>∃ (k:Nat) (lf:Int),k≤n∧i=.int .i64 k∧le=.int .i64 lf∧0≤lf∧lf≤4194304∧Hid (lf+(sumBulk Factor.bulk l:Int)=left - n+(sumBulk Factor.bulk (l.drop k):Int))∧Below w.heap.size w wr) (fun _ i _ _=>n - (intOf i).toNat)
    case atStart=>exact ⟨0,left - n,by omega,rfl,by go_num,by omega,by omega,by simp [Hid],Below.refl _ _⟩
    case round =>
      obtain ⟨k,lf,hk,rfl,rfl,h3,h4,he,hb⟩:=hrel
      by_cases hlt:k < n
      · obtain ⟨f,g,off,hf,rfl,g0,g1,g2,g3,g4,g5,g6,g7⟩:=RowF.at_ (hr.below hb) hlt
        have hd:=Lib.hid (drop_at hf)
        have hm:=Lib.hid (hs f (List.mem_of_getElem? hf.out))
        go_wp2_with (go_at_call 25;refine (szFactor_c _ _ _ _ _ _ _ _ _ _ h3 h4 hm.out.1 hm.out.2).mono ?_;rintro e w1 ⟨⟨r,rfl,hp⟩,hb1⟩;rcases hp with rfl | ⟨hp0,hp1⟩)
        · go_ret
          exact ⟨⟨_,rfl,.inl rfl⟩,bTrans hb hb1⟩
        · have hp2:r≤4194304:=by have:=hp1.out;omega
          have hp1':=hp1
          clear hp1
          go_wp2
          go_roundw
          case rel=>exact ⟨k+1,r,by omega,by go_num,rfl,hp0,hp2,by have:=he.out;have:=hp1'.out;rw [hd.out] at *;simp only [Hid,sumBulk,Factor.bulk] at *;omega,bTrans hb hb1⟩
          case measure=>simp [intOf];omega
      · have hd:=Lib.hid (drop_end hr.len hlt)
        go_wp2
        go_ret
        refine ⟨⟨_,rfl,.inr ⟨h3,?_⟩⟩,hb⟩
        have:=he.out;rw [hd.out] at this;simp only [Hid,sumBulk] at *;omega


theorem szPacket_c (ack:Bool) (num:Int) (tx:ByteArray) (sum:Int) (left:Int) (w:World) (h1:0≤left) (h2:left≤4194304) (h_tx:tx.size≤maxLen) :
    Calls Tryz.prog 209 #[vPacket ack num tx sum,.int .i64 left] w fun e w'=>SzPost left (tx.size) e∧Below w.heap.size w w':=by
  unfold maxLen at h_tx
  go_enter Tryz.func209,Tryz.ntmps209
  go_wp2
  all_goals (go_ret;exact ⟨⟨_,rfl,by unfold Hid;omega⟩,bAlloc (Below.refl _ _) _⟩)

theorem szPacketS_c (A:Option Addr) (n c:Nat) (l:List Packet) (left:Int) (w:World) (h1:0≤left) (h2:left≤4194304) (hn:n≤maxLen) (hr:RowK w A n l) (hs:∀ f∈l,f.text.size≤maxLen) :
    Calls Tryz.prog 187 #[.slice A n c,.int .i64 left] w fun e w'=>SzPost left (n+sumBulk Packet.bulk l) e∧Below w.heap.size w w':=by
  unfold maxLen at hn
  go_enter Tryz.func187,Tryz.ntmps187
  go_wp2
  · go_ret
    exact ⟨⟨_,rfl,.inl rfl⟩,Below.refl _ _⟩
  · go_loopw [1,5,23] (fun le i t wr=>∃ (k:Nat) (lf:Int),k≤n∧i=.int .i64 k∧le=.int .i64 lf∧0≤lf∧lf≤4194304∧Hid (lf+(sumBulk Packet.bulk l:Int)=left - n+(sumBulk Packet.bulk (l.drop k):Int))∧Below w.heap.size w wr) (fun _ i _ _=>n - (intOf i).toNat)
    case atStart=>exact ⟨0,left - n,by omega,rfl,by go_num,by omega,by omega,by simp [Hid],Below.refl _ _⟩
    case round =>
      obtain ⟨k,lf,hk,rfl,rfl,h3,h4,he,hb⟩:=hrel
      by_cases hlt:k < n
      · obtain ⟨f,g,off,hf,rfl,g0,g1,g2,g3⟩:=RowK.at_ (hr.below hb) hlt
        have hd:=Lib.hid (drop_at hf)
        have hm:=Lib.hid (hs f (List.mem_of_getElem? hf.out))
        go_wp2_with (go_at_call 209;refine (szPacket_c _ _ _ _ _ _ h3 h4 hm.out).mono ?_;rintro e w1 ⟨⟨r,rfl,hp⟩,hb1⟩;rcases hp with rfl | ⟨hp0,hp1⟩)
        · go_ret
          exact ⟨⟨_,rfl,.inl rfl⟩,bTrans hb hb1⟩
        · have hp2:r≤4194304:=by have:=hp1.out;omega
          have hp1':=hp1
          clear hp1
          go_wp2
          go_roundw
          case rel=>exact ⟨k+1,r,by omega,by go_num,rfl,hp0,hp2,by have:=he.out;have:=hp1'.out;rw [hd.out] at *;simp only [Hid,sumBulk,Packet.bulk] at *;omega,bTrans hb hb1⟩
          case measure=>simp [intOf];omega
      · have hd:=Lib.hid (drop_end hr.len hlt)
        go_wp2
        go_ret
        refine ⟨⟨_,rfl,.inr ⟨h3,?_⟩⟩,hb⟩
        have:=he.out;rw [hd.out] at this;simp only [Hid,sumBulk] at *;omega

theorem szStringS_c (A:Option Addr) (n c:Nat) (l:List ByteArray) (left:Int) (w:World) (h1:0≤left) (h2:left≤4194304) (hn:n≤maxLen) (hr:RowS w A n l) (hs:∀ f∈l,f.size≤maxLen) :
    Calls Tryz.prog 186 #[.slice A n c,.int .i64 left] w fun e w'=>SzPost left (n+sumBulk ByteArray.size l) e∧Below w.heap.size w w':=by
  unfold maxLen at hn
  go_enter Tryz.func186,Tryz.ntmps186
  go_wp2
  · go_ret
    exact ⟨⟨_,rfl,.inl rfl⟩,Below.refl _ _⟩
  · go_loopw [1,5] (fun le i wr=>∃ (k:Nat) (lf:Int),k≤n∧i=.int .i64 k∧le=.int .i64 lf∧0≤lf∧lf≤4194304∧Hid (lf+(sumBulk ByteArray.size l:Int)=left - n+(sumBulk ByteArray.size (l.drop k):Int))∧Below w.heap.size w wr) (fun _ i _=>n - (intOf i).toNat)
    case atStart=>exact ⟨0,left - n,by omega,rfl,by go_num,by omega,by omega,by simp [Hid],Below.refl _ _⟩
    case round =>
      obtain ⟨k,lf,hk,rfl,rfl,h3,h4,he,hb⟩:=hrel
      by_cases hlt:k < n
      · obtain ⟨f,g,off,hf,rfl,g0⟩:=RowS.at_ (hr.below hb) hlt
        have hd:=Lib.hid (drop_at hf)
        have hm:=hs f (List.mem_of_getElem? hf.out)
        unfold maxLen at hm
        go_wp2
        · go_ret
          exact ⟨⟨_,rfl,.inl rfl⟩,hb⟩
        · go_roundw
          case rel=>exact ⟨k+1,lf - f.size,by omega,by go_num,rfl,by omega,by omega,by have:=he.out;rw [hd.out] at this;simp only [Hid,sumBulk] at *;omega,hb⟩
          case measure=>simp [intOf];omega
      · have hd:=Lib.hid (drop_end hr.len hlt)
        go_wp2
        go_ret
        refine ⟨⟨_,rfl,.inr ⟨h3,?_⟩⟩,hb⟩
        have:=he.out;rw [hd.out] at this;simp only [Hid,sumBulk] at *;omega
-- infos
theorem info_Factor:(Tryz.prog.info? 34).map (fun i=>(i.zero,i.size,i.bytes))=some (some (.agg #[.int .i64 0,.int .i64 0,.string ByteArray.empty,.string ByteArray.empty,.int .i64 0,.int .i64 0,.int .i64 0,.int .i64 0]),8,80):=by kernel_rfl
theorem size_Factor:(Tryz.prog.info? 34).map (·.size)=some 8:=by kernel_rfl
def zeroFactor:List Value:=[.int .i64 0,.int .i64 0,.string ByteArray.empty,.string ByteArray.empty,.int .i64 0,.int .i64 0,.int .i64 0,.int .i64 0]
theorem info_Packet:(Tryz.prog.info? 164).map (fun i=>(i.zero,i.size,i.bytes))=some (some (.agg #[.bool false,.int .i64 0,.string ByteArray.empty,.int .i64 0]),4,40):=by kernel_rfl
theorem size_Packet:(Tryz.prog.info? 164).map (·.size)=some 4:=by kernel_rfl
def zeroPacket:List Value:=[.bool false,.int .i64 0,.string ByteArray.empty,.int .i64 0]
theorem info_String:(Tryz.prog.info? 9).map (fun i=>(i.zero,i.size,i.bytes))=some (some (.string ByteArray.empty),1,16):=by kernel_rfl
theorem size_String:(Tryz.prog.info? 9).map (·.size)=some 1:=by kernel_rfl
theorem toPose_c (t x y:Int) (w:World):Calls Tryz.prog 73 #[vPose t x y] w fun e w'=>e=.returned (vPose t x y) ∧
    ((w.alloc (.cells #[.int .i64 t,.int .i64 x,.int .i64 y] 59)).alloc (.cells #[.int .i64 t,.int .i64 x,.int .i64 y] 32)).alloc (.cells #[.int .i64 t,.int .i64 x,.int .i64 y] 32)=w':=by
  go_enter Tryz.func73,Tryz.ntmps73
  go_wp2
  exact bodyPost_ret (v:=vPose t x y) (by simp [results,Tryz.results73,go_sem]) rfl ⟨rfl,rfl⟩

theorem toFactor_x (id kind:Int) (fr to:ByteArray) (t x y wt:Int) (w:World) :
    Calls Tryz.prog 27 #[vFactor id kind fr to t x y wt] w fun e w'=>e=.returned (vFactor id kind fr to t x y wt) ∧
      (((((w.alloc (.cells #[.int .i64 id,.int .i64 kind,.string fr,.string to,.int .i64 t,.int .i64 x,.int .i64 y,.int .i64 wt] 61)).alloc (.cells #[.int .i64 id,.int .i64 kind,.string fr,.string to,.int .i64 t,.int .i64 x,.int .i64 y,.int .i64 wt] 34)).alloc (.cells #[.int .i64 id,.int .i64 kind,.string fr,.string to,.int .i64 t,.int .i64 x,.int .i64 y,.int .i64 wt] 34)).alloc (.cells #[.int .i64 t,.int .i64 x,.int .i64 y] 59)).alloc (.cells #[.int .i64 t,.int .i64 x,.int .i64 y] 32)).alloc (.cells #[.int .i64 t,.int .i64 x,.int .i64 y] 32)=w':=by
  go_enter Tryz.func27,Tryz.ntmps27
  go_wp2_with (go_at_call 73;refine (toPose_c _ _ _ _).mono ?_;rintro e w1 ⟨rfl,rfl⟩)
  exact bodyPost_ret (v:=vFactor id kind fr to t x y wt) (by simp [results,Tryz.results27,go_sem]) rfl ⟨rfl,rfl⟩
theorem toFactor_c (id kind:Int) (fr to:ByteArray) (t x y wt:Int) (w:World) :
    Calls Tryz.prog 27 #[vFactor id kind fr to t x y wt] w fun e w'=>e=.returned (vFactor id kind fr to t x y wt)∧Below w.heap.size w w' :=
  (toFactor_x id kind fr to t x y wt w).mono fun e w' ⟨h1,h2⟩=>⟨h1,by rw [← h2];exact bAlloc (bAlloc (bAlloc (bAlloc (bAlloc (bAlloc (Below.refl _ _) _) _) _) _) _) _⟩
theorem toFactorS_c (A:Option Addr) (n c:Nat) (l:List Factor) (w:World) (hn:n≤4194304) (hr:RowF w A n l) :
    Calls Tryz.prog 153 #[.slice A n c] w fun e w'=>∃ A' c',e=.returned (.slice A' n c')∧Own w' w.heap.size 34 8 A' n c' (l.map Factor.cells)∧Below w.heap.size w w':=by
  obtain ⟨i0,hi,hz0,hz1,hz2⟩:=info_parts info_Factor
  go_enter Tryz.func153,Tryz.ntmps153
  go_wp2_with (refine wpList_make rfl (.tmp 6) (.tmp 6) _ rfl w.heap.size 34 8 80 i0 _ Tryz.underlying23 hi hz0 hz1 hz2 .i64 .i64 n rfl rfl zeroFactor rfl rfl (by omega) (by omega) (by simp only [maxLen];omega) (Nat.le_refl _) ?_;intro w1 hown1 hg1)
  have hb1:=bGrown (Below.refl _ _) hg1 (by simp)
  rw [← Fill.zero Factor.cells zeroFactor l n] at hown1
  go_loopw [4,20] (fun i t wr=>∃ (k:Nat),k≤n∧i=.int .i64 k∧Own wr w.heap.size 34 8 (some ⟨w.heap.size,0,none⟩) n n (Fill Factor.cells zeroFactor l k n)∧Below w.heap.size w wr) (fun i _ _=>n - (intOf i).toNat)
  case atStart=>exact ⟨0,by omega,rfl,hown1,hb1⟩
  case round =>
    obtain ⟨k,hk,rfl,hown,hb⟩:=hrel
    by_cases hlt:k < n
    · obtain ⟨f,g,off,hf,rfl,g0,g1,g2,g3,g4,g5,g6,g7⟩:=RowF.at_ (hr.below hb) hlt
      go_wp2_with fail
      refine (toFactor_c _ _ _ _ _ _ _ _ _).mono ?_
      rintro e w2 ⟨rfl,hb2⟩
      have hown2:=hown.below hb2
      go_wp2_with (refine wpList_store_elem rfl _ (.tmp 21) (.tmp 20) rfl w.heap.size 34 8 n n w.heap.size k _ rfl _ rfl _ f.cells rfl rfl rfl (one_of rfl) size_Factor hown2 hlt ?_;intro w3 hown3 hg3)
      rw [Fill.set_ _ _ hf hr.len] at hown3
      go_roundw
      case rel=>exact ⟨k+1,by omega,by go_num,hown3,bGrown (bTrans hb hb2) hg3 (by simp)⟩
      case measure=>simp [intOf];omega
    · rw [Fill.full _ _ hr.len hlt] at hown
      go_wp2
      go_ret
      exact ⟨_,_,rfl,hown,hb⟩


theorem toPacket_c (ack:Bool) (num:Int) (tx:ByteArray) (sum:Int) (w:World):Calls Tryz.prog 211 #[vPacket ack num tx sum] w fun e w'=>e=.returned (vPacket ack num tx sum)∧Below w.heap.size w w':=by
  go_enter Tryz.func211,Tryz.ntmps211
  go_wp2
  exact bodyPost_ret (v:=vPacket ack num tx sum) (by simp [results,Tryz.results211,go_sem]) rfl ⟨rfl,bAlloc (bAlloc (bAlloc (Below.refl _ _) _) _) _⟩

theorem toPacketS_c (A:Option Addr) (n c:Nat) (l:List Packet) (w:World) (hn:n≤4194304) (hr:RowK w A n l) :
    Calls Tryz.prog 193 #[.slice A n c] w fun e w'=>∃ A' c',e=.returned (.slice A' n c')∧Own w' w.heap.size 164 4 A' n c' (l.map Packet.cells)∧Below w.heap.size w w':=by
  obtain ⟨i0,hi,hz0,hz1,hz2⟩:=info_parts info_Packet
  go_enter Tryz.func193,Tryz.ntmps193
  go_wp2_with (refine wpList_make rfl (.tmp 6) (.tmp 6) _ rfl w.heap.size 164 4 40 i0 _ Tryz.underlying82 hi hz0 hz1 hz2 .i64 .i64 n rfl rfl zeroPacket rfl rfl (by omega) (by omega) (by simp only [maxLen];omega) (Nat.le_refl _) ?_;intro w1 hown1 hg1)
  have hb1:=bGrown (Below.refl _ _) hg1 (by simp)
  rw [← Fill.zero Packet.cells zeroPacket l n] at hown1
  go_loopw [4,20] (fun i t wr=>∃ (k:Nat),k≤n∧i=.int .i64 k∧Own wr w.heap.size 164 4 (some ⟨w.heap.size,0,none⟩) n n (Fill Packet.cells zeroPacket l k n)∧Below w.heap.size w wr) (fun i _ _=>n - (intOf i).toNat)
  case atStart=>exact ⟨0,by omega,rfl,hown1,hb1⟩
  case round =>
    obtain ⟨k,hk,rfl,hown,hb⟩:=hrel
    by_cases hlt:k < n
    · obtain ⟨f,g,off,hf,rfl,g0,g1,g2,g3⟩:=RowK.at_ (hr.below hb) hlt
      go_wp2_with fail
      refine (toPacket_c _ _ _ _ _).mono ?_
      rintro e w2 ⟨rfl,hb2⟩
      have hown2:=hown.below hb2
      go_wp2_with (refine wpList_store_elem rfl _ (.tmp 21) (.tmp 20) rfl w.heap.size 164 4 n n w.heap.size k _ rfl _ rfl _ f.cells rfl rfl rfl (one_of rfl) size_Packet hown2 hlt ?_;intro w3 hown3 hg3)
      rw [Fill.set_ _ _ hf hr.len] at hown3
      go_roundw
      case rel=>exact ⟨k+1,by omega,by go_num,hown3,bGrown (bTrans hb hb2) hg3 (by simp)⟩
      case measure=>simp [intOf];omega
    · rw [Fill.full _ _ hr.len hlt] at hown
      go_wp2
      go_ret
      exact ⟨_,_,rfl,hown,hb⟩

theorem toStringS_c (A:Option Addr) (n c:Nat) (l:List ByteArray) (w:World) (hn:n≤4194304) (hr:RowS w A n l) :
    Calls Tryz.prog 192 #[.slice A n c] w fun e w'=>∃ A' c',e=.returned (.slice A' n c')∧Own w' w.heap.size 9 1 A' n c' (l.map strCells)∧Below w.heap.size w w':=by
  obtain ⟨i0,hi,hz0,hz1,hz2⟩:=info_parts info_String
  go_enter Tryz.func192,Tryz.ntmps192
  go_wp2_with (refine wpList_make rfl (.tmp 6) (.tmp 6) _ rfl w.heap.size 9 1 16 i0 _ Tryz.underlying81 hi hz0 hz1 hz2 .i64 .i64 n rfl rfl (strCells ByteArray.empty) rfl rfl (by omega) (by omega) (by simp only [maxLen];omega) (Nat.le_refl _) ?_;intro w1 hown1 hg1)
  have hb1:=bGrown (Below.refl _ _) hg1 (by simp)
  rw [← Fill.zero strCells (strCells ByteArray.empty) l n] at hown1
  go_loopw [4] (fun i wr=>∃ (k:Nat),k≤n∧i=.int .i64 k∧Own wr w.heap.size 9 1 (some ⟨w.heap.size,0,none⟩) n n (Fill strCells (strCells ByteArray.empty) l k n)∧Below w.heap.size w wr) (fun i _=>n - (intOf i).toNat)
  case atStart=>exact ⟨0,by omega,rfl,hown1,hb1⟩
  case round =>
    obtain ⟨k,hk,rfl,hown,hb⟩:=hrel
    by_cases hlt:k < n
    · obtain ⟨f,g,off,hf,rfl,g0⟩:=RowS.at_ (hr.below hb) hlt
      go_wp2_with (refine wpList_store_elem rfl _ (.tmp 20) (.tmp 19) rfl w.heap.size 9 1 n n w.heap.size k k (by omega) _ rfl _ (strCells f) rfl rfl rfl (one_of rfl) size_String hown hlt ?_;intro w3 hown3 hg3)
      rw [Fill.set_ _ _ hf hr.len] at hown3
      go_roundw
      case rel=>exact ⟨k+1,by omega,by go_num,hown3,bGrown hb hg3 (by simp)⟩
      case measure=>simp [intOf];omega
    · rw [Fill.full _ _ hr.len hlt] at hown
      go_wp2
      go_ret
      exact ⟨_,_,rfl,hown,hb⟩
end Go.Proofs.YtdfemnffpaopfaaGreatDoor
