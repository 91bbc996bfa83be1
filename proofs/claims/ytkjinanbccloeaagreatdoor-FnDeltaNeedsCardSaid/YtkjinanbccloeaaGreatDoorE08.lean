/- Of the proof of FnDeltaNeeds: Draw, Fs, Args, qN, SortP, AllP, ProgP, AGetP. -/
import Derived.Test.YtkjinanbccloeaaGreatDoorE05
import Derived.ProofKit
import Derived.OpenShut
import Derived.ShutString
import Derived.WideKeyEntry
import Derived.Sort.KeysCollected
set_option linter.unusedVariables false
set_option maxHeartbeats 2000000
set_option maxRecDepth 100000
namespace Go.Proofs.YtkjinanbccloeaaGreatDoor
section
open Go.RowKit D
attribute [local go_sem ↓] Go.wp_at_zero Go.wp_at_succ
theorem Hw:(Tryz.prog.info? 91).map (fun i=>(i.zero,i.size,i.bytes))=some (some (.agg #[.bool false,.string ⟨#[]⟩]),2,24):=by kernel_rfl
theorem kQ.eP {g p N:Nat} {w w':World} (h:kQ g p w) (hb:Below N w w') (I:g < N):kQ g p w':=by
 obtain ⟨J,n,cap,h1,U,h3⟩:=h;refine ⟨J,n,cap,(hb.block g I).trans h1,U,fun k hk=>?_⟩;obtain ⟨b,o,c,e,y,h4,h5⟩:=h3 k hk;exact ⟨b,o,c,e,y,(World.cell?_of_block (w:=w) (hb.block b (by omega))).trans h4,h5⟩
def D.Sm (s:ByteArray):Prop:=s.size≤16∧s.data.toList ≠ [122,122,122]∧s.data.toList.all (fun c=>c != 10)=true
instance (s:ByteArray):Decidable (D.Sm s):=by unfold D.Sm; infer_instance
theorem D.Sm.max {s:ByteArray} (h:Sm s):s.size≤maxLen:=τ h.1 (by decide)
def Word (g p:Nat) (w:World) (e:Ending) (w':World):Prop:=∃ s:ByteArray,e=.returned (.string s)∧Sm s∧kQ g (p+1) w'∧aI [g] w w'
theorem rY (g p:Nat) (y:List ByteArray) (n:Nat) (w:World) (h:kQ g p w) (U:p≤1000000) (hn:y.length=n) (h1:1≤n) (h2:n≤100) (I:∀ s ∈ y,Sm s):
  Calls Tryz.prog 159 #[.pointer (some ⟨g,0,none⟩),.slice (some ⟨w.heap.size,0,none⟩) n n] (w.alloc (.cells (y.map Value.string).toArray 9)) (Word g p w):=by
 subst hn;have J:Below w.heap.size w (w.alloc (.cells (y.map Value.string).toArray 9)):=ζ;have a0:=h.lt;refine (UD g p _ y _ _ (h.below J) (wJ (cap:=y.length) (ω w _) ν (by unfold maxLen; omega) (fun s hm=>Sm.max (I s hm))) U h1 (by omega) (by split <;> simp <;> omega)).mono ?_;rintro e w' ⟨s,rfl,hm,hR,hG⟩;exact ⟨s,rfl,I s hm,hR,(aI.of_below J).trans (aI.dB hG)⟩
structure jY (g p:Nat) (w:World) (n0 n1:Nat) (nm:ByteArray) (v:Value) (L:List Value) (xs:List T) (wr:World):Prop where
 r0:∃ x y,wr.heap[n0]? = some (.cells #[x,y] 33 (0,0))
 r1:wr.heap[n1]? = some (.cells #[.string nm,v] 33 (0,0))
 h0:w.heap.size≤n0
 h1:w.heap.size≤n1
 ne:n0 ≠ n1
 coll:aX 2 kD w.heap.size 91 wr v L xs []
 rdr:kQ g p wr
 kept:aI [g] w wr
 glt:g < w.heap.size
 small:∀ t ∈ xs,Sm t.name
section
variable {g p:Nat} {w:World} {n0 n1:Nat} {nm:ByteArray} {v:Value} {L:List Value} {xs:List T} {wr:World}
theorem jY.call {p2:Nat} {J:World} (h:jY g p w n0 n1 nm v L xs wr) (hR:kQ g p2 J) (hK:aI [g] wr J):jY g p2 w n0 n1 nm v L xs J:=by
 have U:=h.glt; have h0:=h.h0; have h1:=h.h1
 obtain ⟨x,y,I⟩:=h.r0;exact ⟨⟨x,y,(hK.block n0 (ψ I) (by simp; omega)).trans I⟩,(hK.block n1 (ψ h.r1) (by simp; omega)).trans h.r1,h0,h1,h.ne,h.coll.KG bD hK U (by simp),hR,h.kept.trans hK,U,h.small⟩
theorem jY.drew (h:jY g p w n0 n1 nm v L xs wr):jY g p w n0 n1 nm v L xs wr.drew:=
 ⟨h.r0,h.r1,h.h0,h.h1,h.ne,⟨h.coll.own,h.coll.row.keep bD fun _ _=>rfl,h.coll.far⟩,h.rdr.drew,h.kept.drew,h.glt,h.small⟩
theorem jY.alloc (h:jY g p w n0 n1 nm v L xs wr) (o:Obj):jY g p w n0 n1 nm v L xs (wr.alloc o):=by
 obtain ⟨x,y,I⟩:=h.r0;have J:Below wr.heap.size wr (wr.alloc o):=ζ;exact ⟨⟨x,y,(J.block n0 (ψ I)).trans I⟩,(J.block n1 (ψ h.r1)).trans h.r1,h.h0,h.h1,h.ne,h.coll.below bD J,h.rdr.below J,h.kept.eP J h.kept.size,h.glt,h.small⟩
theorem jY.cell0 (h:jY g p w n0 n1 nm v L xs wr):wr.cell? ⟨n1,0,none⟩=some (.string nm):=ai h.r1
theorem jY.cell1 (h:jY g p w n0 n1 nm v L xs wr):wr.cell? ⟨n1,1,none⟩=some v:=ai h.r1
theorem jY.wE (h:jY g p w n0 n1 nm v L xs wr) (o:Nat):wr.frozen? ⟨n1,o,none⟩=false:=ax h.r1
theorem jY.wL (h:jY g p w n0 n1 nm v L xs wr) (o:Nat):wr.frozen? ⟨n0,o,none⟩=false:=by obtain ⟨x,y,I⟩:=h.r0; exact ax I
theorem jY.lit (b:Bool) (s:ByteArray) (h:jY g p w n0 n1 nm v L xs wr) (y:Sm s):
  aX 2 kD w.heap.size 91 (wr.alloc (.cells #[.bool b,.string s] 91)) v L xs []∧aT 2 kD (wr.alloc (.cells #[.bool b,.string s] 91)) [.bool b,.string s] [⟨b,s⟩] []∧Lies (wr.alloc (.cells #[.bool b,.string s] 91)) (some ⟨wr.heap.size,0,none⟩) [.bool b,.string s]∧Below w.heap.size wr (wr.alloc (.cells #[.bool b,.string s] 91))∧w.heap.size≤(wr.alloc (.cells #[.bool b,.string s] 91)).heap.size∧Sm s:=by
 have I:=h.alloc (.cells #[.bool b,.string s] 91);exact ⟨I.coll,aT.dJ lF ⟨rfl,Sm.max y,rfl⟩,aP (ω wr _),ϑ.alloc h.kept.size _,I.kept.size,y⟩
theorem jY.app {I:World} {o:Obj} {v3:Value} {L3:List Value} {u:T} (h:jY g p w n0 n1 nm v L xs wr) (hC:aX 2 kD w.heap.size 91 I v3 L3 (xs ++ [u]) []) (hB:Below w.heap.size wr I) (hG:(wr.alloc o).grownBy I v.ownBlock) (hu:Sm u.name):
  I.cell? ⟨n1,0,none⟩=some (.string nm)∧I.cell? ⟨n1,1,none⟩=some v∧I.frozen? ⟨n1,1,none⟩=false∧jY g p w n0 n1 nm v3 L3 (xs ++ [u]) (I.setCell ⟨n1,1,none⟩ v3):=by
 have U:=h.alloc o;obtain ⟨x,y,J⟩:=U.r0;have b0:=(hG.block n0 (ψ J) (gV U.coll.own J (by decide)).symm).trans J;have b1:=(hG.block n1 (ψ U.r1) (gV U.coll.own U.r1 (by decide)).symm).trans U.r1;refine ⟨ai b1,ai b1,ax b1,⟨x,y,(π _ _ _ _ h.ne).trans b0⟩,vO b1,h.h0,h.h1,h.ne,hC.l9 bD (gV hC.own b1 (by decide)) (by simp),?_,(h.kept.eP hB ν).zK h.h1 _,h.glt,fun t ht=>(μ.1 ht).elim (h.small t) fun e=>by rw [ώ.1 e]; exact hu⟩;exact (h.rdr.eP hB h.glt).eP ((Below.refl w.heap.size I).setCell h.h1 _) h.glt
theorem jY.name (h:jY g p w n0 n1 nm v L xs wr) (s:ByteArray):jY g p w n0 n1 s v L xs (wr.setCell ⟨n1,0,none⟩ (.string s)):=by
 obtain ⟨x,y,I⟩:=h.r0;exact ⟨⟨x,y,(π _ _ _ _ h.ne).trans I⟩,qJ h.r1,h.h0,h.h1,h.ne,h.coll.l9 bD (gV h.coll.own h.r1 (by decide)) (by simp),h.rdr.eP ((Below.refl w.heap.size wr).setCell h.h1 _) h.glt,h.kept.zK h.h1 _,h.glt,h.small⟩
end
def Lj (k g p q:Nat) (w:World) (e:Ending) (w':World):Prop:=
 ∃ (a:A) (v:Value) (L:List Value) (y:Nat),e=.returned (.agg #[.string a.name,v])∧Sm a.name∧a.args.length≤k∧aX 2 kD w.heap.size 91 w' v L a.args []∧kQ g y w'∧y≤p+q∧aI [g] w w'
def Ll (k g p q:Nat) (w:World) (e:Ending) (w':World):Prop:=
 ∃ (a:A) (v:Value) (L:List Value) (y:Nat),e=.returned (.agg #[.string a.name,v])∧Sm a.name∧a.args.length≤k∧aX 2 kD w.heap.size 91 w' v L a.args []∧kQ g y w'∧y≤p+q∧aI [g] w w'∧∀ t ∈ a.args,Sm t.name
theorem Ll.weak {k g p q:Nat} {w:World} {e:Ending} {w':World} (h:Ll k g p q w e w'):Lj k g p q w e w':=by
 obtain ⟨a,v,L,y,h1,I,J,U,h5,h6,h7,_⟩:=h;exact ⟨a,v,L,y,h1,I,J,U,h5,h6,h7⟩
theorem jY.done {g p:Nat} {w:World} {n0 n1:Nat} {nm:ByteArray} {v:Value} {L:List Value} {xs:List T} {wr:World} {k q p0:Nat} (h:jY g p w n0 n1 nm v L xs wr) (hn:Sm nm) (J:xs.length≤k) (U:p≤p0+q):
  Ll k g p0 q w (.returned (.agg #[.string nm,v])) ((wr.setCell ⟨n0,0,none⟩ (.string nm)).setCell ⟨n0,1,none⟩ v):=by
 obtain ⟨x,y,I⟩:=h.r0;have hB:Below w.heap.size wr ((wr.setCell ⟨n0,0,none⟩ (.string nm)).setCell ⟨n0,1,none⟩ v):=(ϑ.setCell h.h0 _).setCell h.h0 _;have b0:=qJ (u:=.string nm) I;have c1:=h.coll.l9 (o:=0) (u:=.string nm) bD (gV h.coll.own I (by decide)) (by simp);exact ⟨⟨nm,xs⟩,v,L,p,rfl,hn,J,c1.l9 bD (gV c1.own b0 (by decide)) (by simp),h.rdr.eP hB h.glt,U,h.kept.eP hB ν,h.small⟩
theorem CO (g p:Nat) (w:World) (h:kQ g p w) (J:p≤1000000):
  Calls Tryz.prog 212 #[.pointer (some ⟨g,0,none⟩)] w (Word g p w):=by
 have y:=rY g p [⟨#[97]⟩,⟨#[98]⟩,⟨#[99]⟩,⟨#[100]⟩,⟨#[97]⟩,⟨#[98]⟩] 6 w h J rfl (by decide) (by decide) (by decide);clear h
 go_enter Tryz.func212,Tryz.ntmps212
 go_wp2_with fail
 refine y.mono ?_;rintro e w1 ⟨s,rfl,U,I,hK⟩;have H:=η (ι I hK);clear I hK y;go_wp2;go_ret;exact ⟨s,rfl,U,H.out.1,H.out.2⟩
theorem O5 (g p:Nat) (w:World) (h:kQ g p w) (J:p≤1000000):
  Calls Tryz.prog 211 #[.pointer (some ⟨g,0,none⟩)] w (Word g p w):=by
 have y:=rY g p [⟨#[88]⟩,⟨#[89]⟩,⟨#[90]⟩,⟨#[88]⟩,⟨#[89]⟩] 5 w h J rfl (by decide) (by decide) (by decide);clear h
 go_enter Tryz.func211,Tryz.ntmps211
 go_wp2_with fail
 refine y.mono ?_;rintro e w1 ⟨s,rfl,U,I,hK⟩;have H:=η (ι I hK);clear I hK y;go_wp2;go_ret;exact ⟨s,rfl,U,H.out.1,H.out.2⟩
theorem Ls (nm:ByteArray) (w:World):
  Calls Tryz.prog 210 #[.string nm] w fun e w'=>∃ k:Nat,k≤3∧e=.returned (.int .i64 k)∧Below w.heap.size w w':=by
 cases n0:(nm.toList == [101])
 ·skip
  cases n1:(nm.toList == [116])
  ·skip
   cases n2:(nm.toList == [122])
   ·skip
    cases n3:(nm.toList == [104])
    ·skip
     go_enter Tryz.func210,Tryz.ntmps210
     go_wp2;go_ret;exact ⟨1,by decide,rfl,ϑ⟩
    ·skip
     go_enter Tryz.func210,Tryz.ntmps210
     go_wp2;go_ret;exact ⟨3,by decide,rfl,ϑ⟩
   ·skip
    go_enter Tryz.func210,Tryz.ntmps210
    go_wp2;go_ret;exact ⟨0,by decide,rfl,ϑ⟩
  ·skip
   go_enter Tryz.func210,Tryz.ntmps210
   go_wp2;go_ret;exact ⟨2,by decide,rfl,ϑ⟩
 ·skip
  go_enter Tryz.func210,Tryz.ntmps210
  go_wp2;go_ret;exact ⟨2,by decide,rfl,ϑ⟩
theorem oO (nm:ByteArray) (vars:Bool) (g p:Nat) (w:World) (h:kQ g p w) (hp:p≤900000) (hs:Sm nm):
  Calls Tryz.prog 162 #[.pointer (some ⟨g,0,none⟩),.string nm,.bool vars] w (Ll 3 g p 6 w):=by
 obtain ⟨i0,hi,aa,ab,ac⟩:=info_parts Hw;have HS:=η hs;have aE:=η hp;have ae:Below w.heap.size w ((w.alloc (.cells #[.string ⟨#[]⟩,.slice none 0 0] 33)).alloc (.cells #[.string nm,.slice none 0 0] 33)):=(ζ).alloc (by simp) _;have ht:=kZ w (.cells #[.string ⟨#[]⟩,.slice none 0 0] 33) (.cells #[.string nm,.slice none 0 0] 33)
 have I:Hid (jY g p w w.heap.size (w.heap.size+1) nm (.slice none 0 0) [] [] ((w.alloc (.cells #[.string ⟨#[]⟩,.slice none 0 0] 33)).alloc (.cells #[.string nm,.slice none 0 0] 33))):=
  η ⟨⟨_,_,ht.1⟩,ht.2,ν,Nat.le_succ _,by omega,aX.nil _,h.below ae,aI.of_below ae,h.lt,by simp⟩
 have ao:=Ls nm ((w.alloc (.cells #[.string ⟨#[]⟩,.slice none 0 0] 33)).alloc (.cells #[.string nm,.slice none 0 0] 33));clear h hs hp ae ht
 go_enter Tryz.func162,Tryz.ntmps162
 go_wp2_with fail
 refine ao.mono ?_;rintro e w1 ⟨k0,a9,rfl,af⟩;have aq:=η (I.out.call (I.out.rdr.below af) (aI.of_below af));clear I ao af;go_wp2
 go_loopw [8] (fun n wr=>∃ (k:Nat) (xs:List T) (Av:Option Addr) (cv:Nat) (L:List Value) (p':Nat),k≤3∧n=.int .i64 k∧xs.length+k≤3∧p'+2 * k≤p+6∧p'≤p+6∧jY g p' w w.heap.size (w.heap.size+1) nm (.slice Av xs.length cv) L xs wr) (fun n _=>(intOf n).toNat)
 case atStart=>exact ⟨k0,[],none,0,[],p,a9,rfl,by simpa using a9,by omega,by omega,aq.out⟩
 case round=>
  obtain ⟨k,xs,Av,cv,L,p',hk,rfl,hx,ar,av,hI⟩:=hrel;have U:=η hI;have HP:Hid (p'+2 * k≤900006∧p'+2 * k≤p+6∧p'≤p+6):=η (by have:=aE.out; omega);have ag:Hid (xs.length+1≤maxLen):=η (by unfold maxLen; omega);have am:Hid ((xs.length+1) * 24≤140737488355328):=η (by omega);clear hI aq;by_cases a6:0 < k
  ·have aL:(0:Int) < (k:Int):=by omega
   have aM:(k:Int)≤3:=by omega
   have HW:Hid (wrap64 ((k:Int) - 1)=((k - 1:Nat):Int)):=η (by unfold wrap64; omega);have J:Hid (0 < k∧k≤3∧xs.length+k≤3):=η ⟨a6,hk,hx⟩;clear ar av hx hk a9 a6;cases vars
   ·skip
    have I:=η U.out.drew;have q0:=I.out.cell0;have q1:=I.out.cell1;have q2:=I.out.wE 1;go_wp2
    go_region_law
     (first
      | (go_simp; go_at_call 212; refine (CO g _ _ I.out.rdr (by have:=HP.out; omega)).mono ?_; rintro e w2 ⟨s,rfl,a0,a1,a2⟩; replace I:=η (I.out.call a1 a2); replace q0:=I.out.cell0; replace q1:=I.out.cell1; replace q2:=I.out.wE 1; have q3:w.heap.size+1 < w2.heap.size:=lt_of_cell q1; have HT:=η (I.out.lit false s a0); clear a1 a2 a0)
      | (refine aV (by rfl) (.tmp 32) (.tmp 36) _ (by rfl) w.heap.size 91 i0 (.agg #[.bool false,.string ⟨#[]⟩]) 2 24 Tryz.underlying31 hi aa ab ac rfl (Θ 1) bD (.slice Av xs.length cv) xs.length L xs [] (by rfl) HT.out.1 rfl (some ⟨w2.heap.size,0,none⟩) 1 1 _ [⟨false,s⟩] _ (by rfl) HT.out.2.1 rfl HT.out.2.2.1 (fun b hb=>by simp at hb) ag.out am.out w2 w.heap.size HT.out.2.2.2.1 ν HT.out.2.2.2.2.1 ?_; intro A3 c3 w3 a3 a4 a7 a5; have HZ:=η (I.out.app a3 a4 a5 HT.out.2.2.2.2.2); replace q0:=HZ.out.1; replace q1:=HZ.out.2.1; replace q2:=HZ.out.2.2.1; clear a3 a4 a7 a5))
    all_goals
     have a8:=η HZ.out.2.2.2;clear I HT HZ q0 q1 q2 q3;go_wp2;go_roundw
     case rel=>exact ⟨k - 1,xs ++ [⟨false,s⟩],A3,c3,L ++ [.bool false,.string s],p'+1,by have:=J.out; omega,(by first | rw [HW.out] | (have:=J.out; go_num)),by have:=J.out; simp; omega,by have:=HP.out; have:=J.out; omega,by have:=HP.out; have:=J.out; omega,by simpa using a8.out⟩
     case measure=>have:=J.out; (try rw [HW.out]); simp [intOf]; omega
   ·have aw:=pick_any g p' 6 wr U.out.rdr (by have:=HP.out; omega) (by omega) (by omega)
    go_wp2_with fail
    refine aw.mono ?_;rintro e w9 ⟨j,rfl,hj,az,aD⟩;replace U:=η (U.out.call az (aI.dB aD));clear aw az aD;by_cases aR:0 < j
    ·have b1:(0:Int) < (j:Int):=by omega
     have I:=η U.out.drew;have q0:=I.out.cell0;have q1:=I.out.cell1;have q2:=I.out.wE 1;go_wp2
     go_region_law
      (first
       | (go_simp; go_at_call 211; refine (O5 g _ _ I.out.rdr (by have:=HP.out; omega)).mono ?_; rintro e w2 ⟨s,rfl,a0,a1,a2⟩; replace I:=η (I.out.call a1 a2); replace q0:=I.out.cell0; replace q1:=I.out.cell1; replace q2:=I.out.wE 1; have q3:w.heap.size+1 < w2.heap.size:=lt_of_cell q1; have HT:=η (I.out.lit true s a0); clear a1 a2 a0)
       | (refine aV (by rfl) (.tmp 24) (.tmp 28) _ (by rfl) w.heap.size 91 i0 (.agg #[.bool false,.string ⟨#[]⟩]) 2 24 Tryz.underlying31 hi aa ab ac rfl (Θ 1) bD (.slice Av xs.length cv) xs.length L xs [] (by rfl) HT.out.1 rfl (some ⟨w2.heap.size,0,none⟩) 1 1 _ [⟨true,s⟩] _ (by rfl) HT.out.2.1 rfl HT.out.2.2.1 (fun b hb=>by simp at hb) ag.out am.out w2 w.heap.size HT.out.2.2.2.1 ν HT.out.2.2.2.2.1 ?_; intro A3 c3 w3 a3 a4 a7 a5; have HZ:=η (I.out.app a3 a4 a5 HT.out.2.2.2.2.2); replace q0:=HZ.out.1; replace q1:=HZ.out.2.1; replace q2:=HZ.out.2.2.1; clear a3 a4 a7 a5))
     all_goals
      have a8:=η HZ.out.2.2.2;clear I HT HZ q0 q1 q2 q3;go_wp2;go_roundw
      case rel=>exact ⟨k - 1,xs ++ [⟨true,s⟩],A3,c3,L ++ [.bool true,.string s],p'+1+1,by have:=J.out; omega,(by first | rw [HW.out] | (have:=J.out; go_num)),by have:=J.out; simp; omega,by have:=HP.out; have:=J.out; omega,by have:=HP.out; have:=J.out; omega,by simpa using a8.out⟩
      case measure=>have:=J.out; (try rw [HW.out]); simp [intOf]; omega
    ·obtain rfl:j=0:=by omega
     have I:=η U.out.drew;have q0:=I.out.cell0;have q1:=I.out.cell1;have q2:=I.out.wE 1;go_wp2
     go_region_law
      (first
       | (go_simp; go_at_call 212; refine (CO g _ _ I.out.rdr (by have:=HP.out; omega)).mono ?_; rintro e w2 ⟨s,rfl,a0,a1,a2⟩; replace I:=η (I.out.call a1 a2); replace q0:=I.out.cell0; replace q1:=I.out.cell1; replace q2:=I.out.wE 1; have q3:w.heap.size+1 < w2.heap.size:=lt_of_cell q1; have HT:=η (I.out.lit false s a0); clear a1 a2 a0)
       | (refine aV (by rfl) (.tmp 32) (.tmp 36) _ (by rfl) w.heap.size 91 i0 (.agg #[.bool false,.string ⟨#[]⟩]) 2 24 Tryz.underlying31 hi aa ab ac rfl (Θ 1) bD (.slice Av xs.length cv) xs.length L xs [] (by rfl) HT.out.1 rfl (some ⟨w2.heap.size,0,none⟩) 1 1 _ [⟨false,s⟩] _ (by rfl) HT.out.2.1 rfl HT.out.2.2.1 (fun b hb=>by simp at hb) ag.out am.out w2 w.heap.size HT.out.2.2.2.1 ν HT.out.2.2.2.2.1 ?_; intro A3 c3 w3 a3 a4 a7 a5; have HZ:=η (I.out.app a3 a4 a5 HT.out.2.2.2.2.2); replace q0:=HZ.out.1; replace q1:=HZ.out.2.1; replace q2:=HZ.out.2.2.1; clear a3 a4 a7 a5))
     all_goals
      have a8:=η HZ.out.2.2.2;clear I HT HZ q0 q1 q2 q3;go_wp2;go_roundw
      case rel=>exact ⟨k - 1,xs ++ [⟨false,s⟩],A3,c3,L ++ [.bool false,.string s],p'+1+1,by have:=J.out; omega,(by first | rw [HW.out] | (have:=J.out; go_num)),by have:=J.out; simp; omega,by have:=HP.out; have:=J.out; omega,by have:=HP.out; have:=J.out; omega,by simpa using a8.out⟩
      case measure=>have:=J.out; (try rw [HW.out]); simp [intOf]; omega
  ·obtain rfl:k=0:=by omega
   have q0:=U.out.cell0;have q1:=U.out.cell1;have f0:=U.out.wL 0;have f1:=U.out.wL 1
   have z0:∃ x y,wr.cell? ⟨w.heap.size,0,none⟩=some x∧wr.cell? ⟨w.heap.size,1,none⟩=some y:=by
    obtain ⟨x,y,hr⟩:=U.out.r0;exact ⟨x,y,ai hr,ai hr⟩
   obtain ⟨zx,zy,z0,z1⟩:=z0;have HD:=η (U.out.done (k:=3) (q:=6) (p0:=p) HS.out (by omega) (by omega));clear ar av hx hk a9 a6;go_wp2;refine bodyPost_ret (v:=.agg #[.string nm,.slice Av xs.length cv]) (by simp [results,Tryz.results162,go_sem,z0,z1]) rfl HD.out
theorem LC (nm:ByteArray) (vars:Bool) (g p:Nat) (w:World) (h:kQ g p w) (y:p≤900000) (I:Sm nm):
 Calls Tryz.prog 162 #[.pointer (some ⟨g,0,none⟩),.string nm,.bool vars] w (Lj 3 g p 6 w):=(oO nm vars g p w h y I).mono fun _ _ h=>h.weak
theorem EC (xs ys:List A) (v1 v2:Value) (b1 b2:List Nat) (w:World) (h:aC w [v1] xs b1) (y:aC w [v2] ys b2):
  Calls Tryz.prog 15 #[v1,v2] w (UE (xs=ys) w):=by
 obtain ⟨Ad,cap,rfl,hl,hm⟩:=aj h;obtain ⟨Ae,ac,rfl,a6,a7⟩:=aj y;have ae:=ay (τ hl hm);clear hl hm a6 a7;by_cases I:xs.length=ys.length
 ·have hq:((xs.length:Int) == (ys.length:Int))=true:=by simp [I]
  have HL:=η I;clear I
  go_enter Tryz.func15,Tryz.ntmps15
  go_wp2
  go_loopw [5] (fun i wr=>∃ k:Nat,k≤xs.length∧i=.int .i64 k∧(∀ j (h1:j < xs.length) (y:j < ys.length),j < k→xs[j]=ys[j])∧Below w.heap.size w wr) (fun i _=>xs.length - (intOf i).toNat)
  case atStart=>exact ⟨0,ε,rfl,fun j _ _ h=>by omega,ϑ⟩
  case round=>
   obtain ⟨k,hk,rfl,a0,hb⟩:=hrel;have HA:=η a0;clear a0;by_cases a2:k < xs.length
   ·have J:k < ys.length:=by have:=HL.out; omega
    obtain ⟨bb,o,A1,p1,a8,rfl,_,e0,e1,a3,_⟩:=dL (au.below h hb) a2;obtain ⟨bc,o',A2,p2,a9,rfl,_,g0,g1,a1,_⟩:=dL (au.below y hb) J;have af:(0:Int)≤(k:Int):=by omega
    have ag:(k:Int) < (xs.length:Int):=by omega
    have am:(k:Int) < (ys.length:Int):=by omega
    have a4:=η (ι a2 J)
    have HU:Hid (xs[k]=ys[k]→∀ j (h1:j < xs.length) (y:j < ys.length),j < k+1→xs[j]=ys[j]):=η (fun e j h1 y hj=>by
     by_cases aa:j=k
     ·subst aa; exact e
     ·exact HA.out j h1 y (by omega))
    have HV:Hid (xs[k] ≠ ys[k]→¬ xs=ys):=η (fun ab e=>ab (by subst e; rfl));have hf:=OM xs[k] ys[k] _ _ _ _ a8 a9 _ (ak.below a3 (ϑ.drew)) (ak.below a1 (ϑ.drew));generalize xs[k]=t at *;generalize ys[k]=u at *;clear h y a2 J a3 a1;go_wp2
    go_region_held3 (fun w'=>w'.cell? ⟨bb,o+k * 2,none⟩=some (.string t.name)∧w'.cell? ⟨bb,o+k * 2+1,none⟩=some (.slice A1 t.args.length p1)∧w'.cell? ⟨bc,o'+k * 2,none⟩=some (.string u.name)∧w'.cell? ⟨bc,o'+k * 2+1,none⟩=some (.slice A2 u.args.length p2)) (first | go_keep | exact ⟨q0,q1,q2,q3⟩)
     (first | (go_at_call 57; refine hf.mono ?_; rintro e w' ⟨r,rfl,hr,U⟩; have HR:=η hr; clear hr; have q0:=ξ U e0; have q1:=ξ U e1; have q2:=ξ U g0; have q3:=ξ U g1))
    have a5:Hid (Below w.heap.size w w'):=η (hb.trans ((ϑ.drew.trans U).mono hb.size));cases r
    ·have HW:=η (HV.out (fun e=>by have:=HR.out.2 e; cases this))
     go_wp2;go_ret;exact ⟨false,rfl,by simpa using HW.out,a5.out⟩
    ·have HW:=η (HU.out (HR.out.1 rfl))
     go_wp2;go_roundw
     case rel=>exact ⟨k+1,a4.out.1,by go_num,HW.out,a5.out⟩
     case measure=>have:=a4.out.1; simp [intOf]; omega
   ·have he:k=xs.length:=by omega
    have HW:Hid (xs=ys):=η (List.ext_getElem HL.out fun j h1 y=>HA.out j h1 y (by omega));subst he;clear h y;go_wp2;go_ret;exact ⟨true,rfl,by simpa using HW.out,hb⟩
 ·have hq:((xs.length:Int) == (ys.length:Int))=false:=beq_eq_false_iff_ne.2 (by omega)
  have HE:Hid (¬ xs=ys):=η (fun e=>I (by rw [e]));clear h y I
  go_enter Tryz.func15,Tryz.ntmps15
  go_wp2;go_ret;exact ⟨false,rfl,by simpa using HE.out,ϑ⟩
end
section
open Go.RowKit D Go.ChangeShapes Go.WideShapes
theorem own:ownKnob Tryz.prog.godebug=none:=by kernel_rfl
theorem laidOut:laidOutB Tryz.prog=true:=by kernel_rfl
theorem Qs {α:Type} {P:Program} {t:TypeId} {R:Rel α} (y:Opens P t R) {H:Type} {enc:TypeId × Value→H} {w:World} {spare:Nat→Bool} {held:Bool} {v:Value} {d:DataW H} {ps:List MemPlace}
  (h:DataW.Trod enc P w 0 spare held t v d ps):∃ x bs,R w v.cells.toList x bs:=by
 obtain ⟨fuel,hf⟩:=h;exact y H enc w spare held fuel _ _ hf
theorem Qu:Opens Tryz.prog 22 uj:=La Tryz.underlying22 (by kernel_rfl) (by omega) (OX Tryz.underlying5)
end
section
open Go.RowKit Go.ChangeMaps Go.MapKept D
structure D.qN (S:Value→Prop) (b:Nat) (L:List (Value × Value × Nat)) (c:Nat) (w:World):Prop where
 blk:∃ es,w.heap[b]? = some (.map es c)∧es.toList.map (fun e=>(e.key,e.val,e.born))=L
 keys:∀ p ∈ L,S p.1
 once:L.Pairwise fun p q=>p.1 ≠ q.1
 nums:(L.map fun p=>p.2.2).Nodup
 less:∀ p ∈ L,p.2.2 < c
section
variable {P:Program} {kt:TypeId} {W:World→Prop} {S:Value→Prop}
theorem D.qN.same {b c:Nat} {L:List (Value × Value × Nat)} {w w':World} (h:qN S b L c w) (e:w'.heap[b]? = w.heap[b]?):qN S b L c w':=by
 obtain ⟨⟨es,h1,y⟩,I,J,U,h6⟩:=h;exact ⟨⟨es,e.trans h1,y⟩,I,J,U,h6⟩
theorem D.qN.lt {b c:Nat} {L:List (Value × Value × Nat)} {w:World} (h:qN S b L c w):b < w.heap.size:=by
 obtain ⟨⟨es,h1,y⟩,I,J,U,h6⟩:=h;exact (Array.getElem?_eq_some_iff.1 h1).1
theorem D.qN.Za {b c:Nat} {L:List (Value × Value × Nat)} {w:World} (h:qN S b L c w):oG S b (L.map fun p=>(p.1,p.2.1)) w:=by
 obtain ⟨⟨es,h1,y⟩,I,J,h5,h6⟩:=h;refine ⟨⟨es,c,h1,?_⟩,?_,?_⟩
 ·rw [← y,List.map_map]; rfl
 ·intro p U
  obtain ⟨q,hq,rfl⟩:=List.mem_map.1 U;exact I q hq
 ·exact List.pairwise_map.2 J
theorem D.qN.made (w:World):qN S w.heap.size [] 0 (w.alloc (.map #[] 0)):=
 ⟨⟨#[],(MapKept.heap_alloc w _).1,rfl⟩,fun p h=>by simp at h,List.Pairwise.nil,List.nodup_nil,fun p h=>by simp at h⟩
theorem D.Hy {α:Type} {A B:List α} {p:α}:(A ++ p :: B)[A.length]? = some p:=by simp
theorem Jm (hK:KP P kt W S) {w:World} (hW:W w) {t e:TypeId} (ht:P.underlying t=some (.map kt e)) {b c:Nat} {L:List (Value × Value × Nat)} {k z:Value} (h:qN S b L c w)
  (hz:(zeroValue e).run P w=.ok z w) (U:S k) (hk:∀ p ∈ L,p.1 ≠ k):
  ∃ w',(Instr.mapEntry t (.map (some b)) k).run P w=.ok (.tuple #[z,goInt c]) w'∧qN S b (L ++ [(k,z,c)]) (c+1) w'∧w.grownBy w' (some b):=by
 obtain ⟨⟨es,hb,rfl⟩,h2,h3,h4,h5⟩:=h;have a0:∀ e ∈ es.toList,S e.key:=fun e he=>h2 (e.key,e.val,e.born) (List.mem_map.2 ⟨e,he,rfl⟩)
 rcases mZ hK hW U es.toList a0 with ⟨h6,h7⟩ | ⟨i,J,h6,h7,h8⟩
 ·refine ⟨setBlock w b (.map (es.push ⟨k,z,c⟩) (c+1)),?_,⟨⟨_,heap_setBlock_same hb _,by simp⟩,?_,?_,?_,?_⟩,mr hb _⟩
  ·simp [Instr.mapEntry,run_underlying ht,MapKept.run_getObj_map hb,hK.check w false U,h6,hz,MapKept.run_setObj_map _ hb,Result.andThen,setBlock]
  ·intro p I
   rcases μ.1 I with I | I
   ·exact h2 p I
   ·rw [ώ.1 I]; exact U
  ·refine List.pairwise_append.2 ⟨h3,List.pairwise_singleton _ _,fun p I q hq=>?_⟩
   rw [ώ.1 hq];exact hk p I
  ·rw [List.map_append]
   refine List.nodup_append.2 ⟨h4,by simp,fun x hx y hy=>?_⟩;obtain ⟨p,I,rfl⟩:=List.mem_map.1 hx;have:=h5 p I;simp at hy;omega
  ·intro p I
   rcases μ.1 I with I | I
   ·exact Nat.lt_succ_of_lt (h5 p I)
   ·rw [ώ.1 I]; exact Nat.lt_succ_self _
 ·exact absurd h8 (hk (J.key,J.val,J.born) (List.mem_map.2 ⟨J,List.mem_of_getElem? h7,rfl⟩))
theorem Jo (hK:KP P kt W S) {w:World} (hW:W w) {t e:TypeId} (ht:P.underlying t=some (.map kt e)) {b c n:Nat} {A B:List (Value × Value × Nat)} {k u:Value} (h:qN S b (A ++ (k,u,n) :: B) c w):
  ∃ w',(Instr.mapEntry t (.map (some b)) k).run P w=.ok (.tuple #[u,goInt n]) w'∧qN S b (A ++ (k,u,n) :: B) c w'∧w.grownBy w' (some b):=by
 obtain ⟨⟨es,hb,hL⟩,h2,h3,h4,h5⟩:=h;have hS:S k:=h2 (k,u,n) (by simp);have a3:∀ e ∈ es.toList,S e.key:=fun e he=>h2 (e.key,e.val,e.born) (hL ▸ List.mem_map.2 ⟨e,he,rfl⟩)
 rcases mZ hK hW hS es.toList a3 with ⟨h6,J⟩ | ⟨i,U,h6,J,h8⟩
 ·have:(k,u,n) ∈ es.toList.map (fun e=>(e.key,e.val,e.born)):=by rw [hL]; simp
  obtain ⟨e0,a4,a0⟩:=List.mem_map.1 this;simp only [Prod.mk.injEq] at a0;exact absurd a0.1 (J e0 a4)
 ·have y:(A ++ (k,u,n) :: B)[i]? = some (U.key,U.val,U.born):=by rw [← hL]; simp [J]
  have a5:i=A.length:=by
   obtain ⟨a1,a2⟩:=List.getElem?_eq_some_iff.1 y
   rcases Nat.lt_trichotomy i A.length with hh | hh | hh
   ·exact absurd (by rw [a2]; simp [h8]) (List.pairwise_iff_getElem.1 h3 i A.length a1 (by simp) hh)
   ·exact hh
   ·exact absurd (by rw [a2]; simp [h8]) (List.pairwise_iff_getElem.1 h3 A.length i (by simp) a1 hh)
  subst a5;rw [Hy] at y;simp only [Option.some.injEq,Prod.mk.injEq] at y;obtain ⟨g1,g2,g3⟩:=y;have hj:es[A.length]? = some U:=by simpa using J
  have a6:(Instr.keyThatStays k k).run P w=.ok k w:=by simp [Instr.keyThatStays,hK.same hS]
  have I:es.modify A.length (fun e=>{ e with key:=k })=es:=by
   apply Array.ext';rw [Array.toList_modify,modify_eq_set _ _ _ _ J];have:({ U with key:=k }:MapEntry)=U:=by rw [← h8]
   rw [this];exact WideElems.set_self _ _ _ J
  refine ⟨setBlock w b (.map es c),?_,⟨⟨_,heap_setBlock_same hb _,hL⟩,h2,h3,h4,h5⟩,mr hb _⟩;simp [Instr.mapEntry,run_underlying ht,MapKept.run_getObj_map hb,hK.check w false hS,h6,hj,h8,a6,I,g2,g3,MapKept.run_setObj_map _ hb,Result.andThen,setBlock]
theorem ED {w:World} {t:TypeId} {b c n:Nat} {A B:List (Value × Value × Nat)} {k u:Value} (v:Value) (h:qN S b (A ++ (k,u,n) :: B) c w):
  ∃ w',(Instr.entryStore t (.map (some b)) (goInt n) v).run P w=.ok () w'∧qN S b (A ++ (k,v,n) :: B) c w'∧w.grownBy w' (some b):=by
 obtain ⟨⟨es,hb,hL⟩,h2,h3,h4,h5⟩:=h
 obtain ⟨J,U,g⟩:∃ J,es.toList[A.length]? = some J∧(J.key,J.val,J.born)=(k,u,n):=by
  have:(es.toList.map fun e=>(e.key,e.val,e.born))[A.length]? = some (k,u,n):=by rw [hL]; exact Hy
  rw [List.getElem?_map] at this;exact Option.map_eq_some_iff.1 this
 simp only [Prod.mk.injEq] at g;obtain ⟨g1,g2,g3⟩:=g
 have a1:(es.toList.map (·.born)).Nodup:=by
  have e0:es.toList.map (·.born)=(es.toList.map fun e=>(e.key,e.val,e.born)).map fun p=>p.2.2:=by rw [List.map_map]; rfl
  rw [e0,hL];exact h4
 have a0:es.findIdx? (fun e=>((e.born:Nat):Int) == ((n:Nat):Int))=some A.length:=by
  rw [WideElems.findIdx_arr,← g3];exact WideElems.findIdx_born a1 U
 have I:((es.modify A.length (fun e=>{ e with val:=v })).toList.map fun e=>(e.key,e.val,e.born))=A ++ (k,v,n) :: B:=by
  rw [Array.toList_modify,modify_eq_set _ _ _ _ U,List.map_set,hL,g1,g3];simp
 refine ⟨setBlock w b (.map (es.modify A.length fun e=>{ e with val:=v }) c),?_,⟨⟨_,heap_setBlock_same hb _,I⟩,?_,?_,?_,?_⟩,mr hb _⟩
 ·simp [Instr.entryStore,MapKept.run_getObj_map hb,asInt,asIntOf,goInt,a0,MapKept.run_setObj_map _ hb,Result.andThen,setBlock]
 ·intro p y
  rcases μ.1 y with y | y
  ·exact h2 p (by simp [y])
  ·rcases ύ.1 y with rfl | y
   ·exact h2 (k,u,n) (by simp)
   ·exact h2 p (by simp [y])
 ·have:=List.pairwise_append.1 h3
  have h9:=List.pairwise_cons.1 this.2.1;refine List.pairwise_append.2 ⟨this.1,List.pairwise_cons.2 ⟨fun q hq=>h9.1 q hq,h9.2⟩,fun p y q hq=>?_⟩
  rcases ύ.1 hq with rfl | hq
  ·exact this.2.2 p y (k,u,n) (by simp)
  ·exact this.2.2 p y q (by simp [hq])
 ·simpa using h4
 ·intro p y
  rcases μ.1 y with y | y
  ·exact h5 p (by simp [y])
  ·rcases ύ.1 y with rfl | y
   ·exact h5 (k,u,n) (by simp)
   ·exact h5 p (by simp [y])
section
variable {ops:Array Oper} {rest:List Oper} {o:Oper} {a:Act} {Q:Exit→Act→World→Prop}
end
end
end
namespace D
open Go.RowKit
theorem yF:∀ (l m:List UInt8),l < m ↔ kP um l m < 0
 | [],[]=>by simp [kP]
 | [],b :: m=>by simp [kP]
 | a :: l,[]=>by simp [kP]
 | a :: l,b :: m=>by
  have e:kP um (a :: l) (b :: m)=if um a b=0 then kP um l m else um a b:=rfl
  rw [List.cons_lt_cons_iff,yF l m,e];by_cases h:a=b
  ·subst h
   have h0:um a a=0:=D5.refl a;rw [if_pos h0];simp
  ·have hn:¬ um a b=0:=fun e=>h ((D5.eq a b).1 e)
   rw [if_neg hn]
   have h1:a < b ↔ um a b < 0:=by
    unfold um;by_cases y:a < b
    ·simp [y]
    ·rw [if_neg y]
     constructor
     ·exact fun I=>absurd I y
     ·intro I; split at I <;> omega
   rw [h1];constructor
   ·rintro (I | ⟨I,_⟩)
    ·exact I
    ·exact absurd I h
   ·exact .inl
theorem Yq {x y:List UInt8}:leB x y=true ↔ x≤y:=by simp [leB]
theorem CP (y:List (List UInt8)):(y.mergeSort leB).Pairwise (fun a b=>a≤b):=by
 have I:∀ a b c:List UInt8,leB a b=true→leB b c=true→leB a c=true:=fun a b c h1 J=>by simp only [leB,decide_eq_true_eq] at *; exact List.le_trans h1 J
 have U:∀ a b:List UInt8,(leB a b || leB b a)=true:=fun a b=>by simp only [leB,Bool.or_eq_true,decide_eq_true_eq]; exact List.le_total a b
 exact (List.pairwise_mergeSort I U y).imp fun h=>Yq.1 h
theorem LD {s:List (List UInt8)} (h:s.Pairwise (fun a b=>a≤b)):(Lib.compact s).Pairwise (fun a b=>a < b):=by
 unfold Lib.compact Lib.compactUpTo;have a0:∀ i,i < s.length→s.toArray[i]! = s[i]!:=fun i hi=>by simp
 refine List.pairwise_map.2 ?_;refine ((List.pairwise_lt_range (n:=s.length)).filter _).imp_of_mem ?_;intro i j hi hj a1;have I:=List.mem_filter.1 hj;have y:j < s.length:=List.mem_range.1 I.1;have hk:j=0∨s.toArray[j]! ≠ s.toArray[j - 1]!:=by simpa [Lib.keeps] using I.2
 have J:s.toArray[j]! ≠ s.toArray[j - 1]!:=hk.resolve_left (by omega);have U:=List.pairwise_iff_getElem.1 h;have e1:s.toArray[i]! = s[i]'(by omega):=by rw [getElem!_pos _ _ (by simp; omega)]; simp
 have e2:s.toArray[j]! = s[j]'y:=by rw [getElem!_pos _ _ (by simp; omega)]; simp
 have e3:s.toArray[j - 1]! = s[j - 1]'(by omega):=by rw [getElem!_pos _ _ (by simp; omega)]; simp
 rw [e1,e2];rw [e2,e3] at J
 have h1:s[i]'(by omega)≤s[j - 1]'(by omega):=by
  by_cases e:i=j - 1
  ·subst e; exact List.le_refl _
  ·exact U i (j - 1) (by omega) (by omega) (by omega)
 have h2:s[j - 1]'(by omega)≤s[j]'y:=U (j - 1) j (by omega) y (by omega);have h3:s[i]'(by omega)≤s[j]'y:=List.le_trans h1 h2;rw [← List.not_le];intro h4;exact J (List.le_antisymm (List.le_trans h4 h1) h2)
theorem CQ (s:List (List UInt8)) (x:List UInt8):x ∈ Lib.compact s ↔ x ∈ s:=by
 unfold Lib.compact Lib.compactUpTo;constructor
 ·intro h
  obtain ⟨j,y,rfl⟩:=List.mem_map.1 h;have I:j < s.length:=List.mem_range.1 (List.mem_filter.1 y).1;rw [getElem!_pos _ _ (by simpa using I)];simp
 ·intro h
  obtain ⟨j,y,rfl⟩:=List.mem_iff_getElem.1 h
  have key:∀ (j:Nat) (y:j < s.length),∃ i ∈ (List.range s.length).filter (Lib.keeps s.toArray),s.toArray[i]! = s.toArray[j]!:=by
   intro j
   induction j with
   | zero=>intro y; exact ⟨0,List.mem_filter.2 ⟨List.mem_range.2 y,by simp [Lib.keeps]⟩,rfl⟩
   | succ j ih=>
    intro y;by_cases e:s.toArray[j+1]! = s.toArray[j]!
    ·obtain ⟨i,J,he⟩:=ih (by omega)
     exact ⟨i,J,by rw [he,e]⟩
    ·exact ⟨j+1,List.mem_filter.2 ⟨List.mem_range.2 y,by simp only [Lib.keeps,decide_eq_true_eq]; exact .inr e⟩,rfl⟩
  obtain ⟨i,J,he⟩:=key j y;refine List.mem_map.2 ⟨i,J,?_⟩;rw [he,getElem!_pos _ _ (by simpa using y)];simp
theorem O6 (s:List (List UInt8)):(Lib.compact s).length≤s.length:=by
 unfold Lib.compact Lib.compactUpTo;rw [List.length_map];exact τ (List.length_filter_le _ _) (by simp)
theorem bytes_inj {a b:ByteArray} (h:a.data.toList=b.data.toList):a=b:=by
 cases a; cases b; simp at h; rw [h]
theorem asc_one {xs ys:List (List UInt8)} (y:xs.Pairwise (fun a b=>a < b)) (I:ys.Pairwise (fun a b=>a < b)) (hm:∀ x,x ∈ xs ↔ x ∈ ys):xs=ys:=by
 have n1:xs.Nodup:=y.imp fun {a b} h e=>by subst e; exact List.lt_irrefl _ h
 have J:ys.Nodup:=I.imp fun {a b} h e=>by subst e; exact List.lt_irrefl _ h
 refine List.Perm.eq_of_pairwise (le:=fun a b=>a < b) (fun a b _ _ h1 U=>absurd (List.lt_trans h1 U) (List.lt_irrefl _)) y I ((List.perm_ext_iff_of_nodup n1 J).2 hm)
theorem EF {I:List (List UInt8)} {xs:List ByteArray} (J:oZ xs) (hm:∀ b,b ∈ I ↔ ∃ x ∈ xs,x.data.toList=b):Lib.compact (I.mergeSort fun x y=>decide (x≤y))=xs.map (·.data.toList):=by
 refine asc_one (LD (CP I)) ?_ ?_
 ·exact List.pairwise_map.2 (J.imp fun {a b} h=>(yF _ _).2 h)
 ·intro b
  rw [CQ,(List.mergeSort_perm I leB).mem_iff,hm];simp
def jL (y:List T):List ByteArray:=(y.filter (·.var)).map (·.name)
def jM (ps:List Pt):List ByteArray:=ps.flatMap fun p=>jL p.atom.args
theorem Jp (y:List T) (k:Nat) (h:k < y.length):jL (y.take (k+1))=jL (y.take k) ++ (if y[k].var then [y[k].name] else []):=by
 unfold jL;rw [ρ h,List.filter_append,List.map_append]
 congr 1
 cases hv:y[k].var <;> simp [hv]
theorem Jq (ps:List Pt) (k:Nat) (h:k < ps.length):jM (ps.take (k+1))=jM (ps.take k) ++ jL ps[k].atom.args:=by
 unfold jM;rw [ρ h,List.flatMap_append];simp
theorem LG (J:List T) (x:ByteArray):x ∈ jL J ↔ kS x J:=by
 unfold jL kS;simp only [List.mem_map,List.mem_filter];constructor
 ·rintro ⟨t,⟨h1,y⟩,I⟩; exact ⟨t,h1,y,I⟩
 ·rintro ⟨t,h1,y,I⟩; exact ⟨t,⟨h1,y⟩,I⟩
theorem LH (ps:List Pt) (x:ByteArray):x ∈ jM ps ↔ ∃ p ∈ ps,kS x p.atom.args:=by
 unfold jM;simp only [List.mem_flatMap,LG]
theorem CS (y:List T):(jL y).length≤y.length:=by
 unfold jL; rw [List.length_map]; exact List.length_filter_le _ _
theorem uG:∀ (ps:List Pt),(jM ps).length≤je (fun p=>p.atom.args.length) ps
 | []=>by simp [jM]
 | p :: ps=>by
  have h1:=uG ps;have y:=CS p.atom.args;simp only [jM,je,List.flatMap_cons,χ,List.map_cons,List.sum_cons] at *;omega
theorem Jr (ps:List Pt):Lib.compact (((jM ps).map (·.data.toList)).mergeSort fun x y=>decide (x≤y))=(aF ps).map (·.data.toList):=by
 refine EF (ng ps o6) fun b=>?_
 simp only [List.mem_map,LH];constructor
 ·rintro ⟨x,h,rfl⟩; exact ⟨x,(iG ps [] x).2 (.inr h),rfl⟩
 ·rintro ⟨x,h,rfl⟩
  refine ⟨x,?_,rfl⟩
  rcases (iG ps [] x).1 h with h | h
  ·simp at h
  ·exact h
def kG (list:List A) (a:A) (b:Bd):List Bd:=list.filterMap fun f=>if (aG a f b).2 then some (aG a f b).1 else none
def Hz (list:List A) (p:Pt) (out:List Bd):List Bd:=if p.no then out else out.flatMap (kG list p.atom)
def yG (list:List A) (body:List Pt):List Bd:=body.foldl (fun out p=>Hz list p out) [[]]
theorem vT (list:List A) (body:List Pt) (k:Nat) (h:k < body.length):yG list (body.take (k+1))=Hz list body[k] (yG list (body.take k)):=by
 unfold yG;rw [ρ h,List.foldl_append];rfl
theorem O7 (list:List A) (a:A) (b:Bd) (j:Nat) (h:j < list.length):kG (list.take (j+1)) a b=kG (list.take j) a b ++ (if (aG a list[j] b).2 then [(aG a list[j] b).1] else []):=by
 unfold kG;rw [ρ h,List.filterMap_append]
 congr 1
 by_cases hm:(aG a list[j] b).2=true
 ·simp [hm]
 ·simp [hm]
theorem Ia (list:List A) (a:A) (b:Bd):(kG list a b).length≤list.length:=List.length_filterMap_le _ _
theorem yH {list:List A} {a:A}:∀ (out:List Bd),(out.flatMap (kG list a)).length≤out.length * list.length:=by
 intro out
 induction out with
 | nil=>simp
 | cons b out ih=>
  rw [List.flatMap_cons,χ,List.length_cons,Nat.add_mul,Nat.one_mul];have:=Ia list a b;omega
theorem RG (list:List A) (a:A) (out:List Bd) (k:Nat) (h:k < out.length):(out.take (k+1)).flatMap (kG list a)=(out.take k).flatMap (kG list a) ++ kG list a out[k]:=by
 rw [ρ h,List.flatMap_append];simp
theorem RH {list:List A} {p:Pt} {out:List Bd} {n:Nat} (y:list.length≤300) (h:out.length≤300 ^ n):(Hz list p out).length≤300 ^ (n+1):=by
 unfold Hz
 split
 ·exact τ h (Nat.pow_le_pow_right (by omega) (by omega))
 ·refine τ (yH out) ?_
  rw [Nat.pow_succ];exact Nat.mul_le_mul h y
theorem rZ:∀ (y fs:List T) (b:Bd),(cZ y fs b).1.length≤b.length+y.length
 | [],fs,b=>by cases fs <;> simp [cZ]
 | t :: y,[],b=>by simp [cZ]
 | t :: y,f :: fs,b=>by
  rw [cZ]
  split
  ·split
   ·split
    ·have:=rZ y fs b
     simp only [List.length_cons]; omega
    ·simp
   ·have:=rZ y fs (b ++ [(t.name,f.name)])
    simp only [χ,List.length_cons,List.length_nil] at this ⊢; omega
  ·split
   ·have:=rZ y fs b
    simp only [List.length_cons]; omega
   ·simp
theorem EG (a f:A) (b:Bd):(aG a f b).1.length≤b.length+a.args.length:=by
 unfold aG
 split
 ·exact rZ _ _ _
 ·simp
theorem O8 {list:List A} {a:A} {b y:Bd} (h:y ∈ kG list a b):y.length≤b.length+a.args.length:=by
 unfold kG at h;obtain ⟨f,_,hf⟩:=List.mem_filterMap.1 h
 split at hf
 ·cases hf
  exact EG a f b
 ·cases hf
def jl (list:List A) (body:List Pt) (b:Bd):Bool:=body.all fun p=>!p.no || !hasB list (cO p.atom b)
def allB (list:List A) (body:List Pt):List Bd:=(yG list body).filter (jl list body)
def jV (r:Ru):List A:=r.head :: r.body.map (·.atom)
def aB (rs:List Ru):List A:=rs.flatMap jV
def fZ (ps:List Pt):List A:=ps.map (·.atom)
theorem qw (rs:List Ru) (k:Nat) (h:k < rs.length):aB (rs.take (k+1))=aB (rs.take k) ++ [rs[k].head] ++ fZ rs[k].body:=by
 rw [ρ h]; unfold aB jV fZ; simp only [List.flatMap_append,List.flatMap_cons,List.flatMap_nil,List.append_nil,List.append_assoc,List.cons_append,List.nil_append]
theorem uH (ps:List Pt) (k:Nat) (h:k < ps.length):fZ (ps.take (k+1))=fZ (ps.take k) ++ [ps[k].atom]:=by
 rw [ρ h]; unfold fZ; simp only [List.map_append,List.map_cons,List.map_nil]
theorem nG (ps:List Pt):(fZ ps).length=ps.length:=by unfold fZ; simp
def lq (st:List ByteArray × (ByteArray→Int) × Bool) (a:A):List ByteArray × (ByteArray→Int) × Bool:=
 if a.name ∈ st.1∧st.2.1 a.name ≠ a.args.length then (st.1,st.2.1,false) else (dZ st.1 a.name,fun t=>if t=a.name then a.args.length else st.2.1 t,st.2.2)
def dG (xs:List A):List ByteArray × (ByteArray→Int) × Bool:=xs.foldl lq ([],fun _=>0,true)
theorem xC (xs:List A) (a:A):dG (xs ++ [a])=lq (dG xs) a:=by unfold dG; rw [List.foldl_append]; rfl
def kH (xs:List A):Bool:=xs.all fun a=>xs.all fun b=>decide (a.name=b.name→a.args.length=b.args.length)
theorem pJ (xs:List A):(∀ s,s ∈ (dG xs).1 ↔ ∃ a ∈ xs,a.name=s)∧(dG xs).1.length≤xs.length∧(∀ s ∈ (dG xs).1,∃ a ∈ xs,a.name=s∧(dG xs).2.1 s=a.args.length)∧
  ((dG xs).2.2=true ↔ ∀ a ∈ xs,(dG xs).2.1 a.name=a.args.length):=by
 have key:∀ (n:Nat) (xs:List A),xs.length=n→(∀ s,s ∈ (dG xs).1 ↔ ∃ a ∈ xs,a.name=s)∧(dG xs).1.length≤xs.length∧(∀ s ∈ (dG xs).1,∃ a ∈ xs,a.name=s∧(dG xs).2.1 s=a.args.length)∧
   ((dG xs).2.2=true ↔ ∀ a ∈ xs,(dG xs).2.1 a.name=a.args.length):=by
  intro n
  induction n with
  | zero=>
   intro xs I;obtain rfl:=List.length_eq_zero_iff.1 I;exact ⟨fun s=>by simp [dG],ν,fun s h=>by simp [dG] at h,by simp [dG]⟩
  | succ n ih=>
   intro xs I
   obtain ⟨ys,a,rfl⟩:∃ ys a,xs=ys ++ [a]:=by
    rcases List.eq_nil_or_concat xs with rfl | ⟨ys,a,rfl⟩
    ·simp at I
    ·exact ⟨ys,a,by simp⟩
   obtain ⟨i1,i0,i2,i3⟩:=ih ys (by simpa using I);rw [xC];by_cases hc:a.name ∈ (dG ys).1∧(dG ys).2.1 a.name ≠ a.args.length
   ·have e:lq (dG ys) a=((dG ys).1,(dG ys).2.1,false):=by unfold lq; rw [if_pos hc]
    rw [e];refine ⟨fun s=>⟨fun h=>?_,fun h=>?_⟩,by simp; omega,fun s h=>?_,⟨fun h=>by simp at h,fun h=>absurd (h a (by simp)) hc.2⟩⟩
    ·obtain ⟨b,hb,e⟩:=(i1 s).1 h
     exact ⟨b,by simp [hb],e⟩
    ·obtain ⟨b,hb,e⟩:=h
     rcases μ.1 hb with hb | hb
     ·exact (i1 s).2 ⟨b,hb,e⟩
     ·rw [ώ.1 hb] at e
      rw [← e]; exact hc.1
    ·obtain ⟨b,hb,e⟩:=i2 s h
     exact ⟨b,by simp [hb],e⟩
   ·have e:lq (dG ys) a=(dZ (dG ys).1 a.name,fun t=>if t=a.name then (a.args.length:Int) else (dG ys).2.1 t,(dG ys).2.2):=by unfold lq; rw [if_neg hc]
    rw [e];refine ⟨fun s=>?_,?_,fun s h=>?_,?_⟩
    ·rw [dP,i1 s]
     simp only [μ,ώ];constructor
     ·rintro (⟨b,hb,e⟩ | rfl)
      ·exact ⟨b,.inl hb,e⟩
      ·exact ⟨a,.inr rfl,rfl⟩
     ·rintro ⟨b,hb | rfl,U⟩
      ·exact .inl ⟨b,hb,U⟩
      ·exact .inr U.symm
    ·have:(dZ (dG ys).1 a.name).length≤(dG ys).1.length+1:=by unfold dZ; split <;> simp
     simp; omega
    ·dsimp only
     by_cases es:s=a.name
     ·exact ⟨a,by simp,es.symm,by rw [if_pos es]⟩
     ·rw [if_neg es]
      obtain ⟨b,hb,e⟩:=i2 s ((dP.1 h).resolve_right es);exact ⟨b,by simp [hb],e⟩
    ·dsimp only
     rw [i3];constructor
     ·intro h b hb
      by_cases y:b.name=a.name
      ·rw [if_pos y]
       rcases μ.1 hb with hb | hb
       ·have h1:a.name ∈ (dG ys).1:=(i1 _).2 ⟨b,hb,y⟩
        have J:(dG ys).2.1 a.name=a.args.length:=Classical.byContradiction fun h=>hc ⟨h1,h⟩
        have h3:=h b hb;rw [y] at h3;rw [← J,h3]
       ·rw [ώ.1 hb]
      ·rw [if_neg y]
       rcases μ.1 hb with hb | hb
       ·exact h b hb
       ·rw [ώ.1 hb] at y; exact absurd rfl y
     ·intro h b hb
      have h0:=h b (by simp [hb]);by_cases y:b.name=a.name
      ·have h1:a.name ∈ (dG ys).1:=(i1 _).2 ⟨b,hb,y⟩
       have J:(dG ys).2.1 a.name=a.args.length:=Classical.byContradiction fun h=>hc ⟨h1,h⟩
       rw [if_pos y] at h0;rw [y,J,h0]
      ·rw [if_neg y] at h0
       exact h0
 exact key _ xs rfl
theorem CU (xs:List A):(dG xs).2.2=kH xs:=by
 obtain ⟨i1,_,i2,I⟩:=pJ xs;refine Bool.eq_iff_iff.2 (I.trans ?_);unfold kH;simp only [ό,decide_eq_true_eq];constructor
 ·intro h a ha b hb e
  have h1:=h a ha;have y:=h b hb;rw [e,y] at h1;exact_mod_cast h1.symm
 ·intro h a ha
  obtain ⟨b,hb,e,y⟩:=i2 a.name ((i1 _).2 ⟨a,ha,rfl⟩);rw [y,h b hb a ha e]
theorem LJ {xs:List A} (h:kH xs=true) {a:A} (ha:a ∈ xs):(dG xs).2.1 a.name=a.args.length:=(pJ xs).2.2.2.1 (by rw [CU]; exact h) a ha
theorem LK {xs:List A} {m:Nat} (h:∀ a ∈ xs,a.args.length≤m) {s:ByteArray} (y:s ∈ (dG xs).1):0≤(dG xs).2.1 s∧(dG xs).2.1 s≤m:=by
 obtain ⟨a,ha,_,e⟩:=(pJ xs).2.2.1 s y;have:=h a ha;omega
def clash (a b:A):Bool:=decide (a.name=b.name) && decide (a.args.length ≠ b.args.length)
theorem CV (xs:List A):kH xs = !(xs.any fun a=>xs.any fun b=>clash a b):=by
 unfold kH clash;simp only [List.all_eq_not_any_not]
 congr 2
 funext a
 simp only [Bool.not_not]
 congr 1
 funext b
 by_cases h1:a.name=b.name <;> by_cases y:a.args.length=b.args.length <;> simp [h1,y]
theorem O9 (a b:A):clash a b=clash b a:=by
 unfold clash;rw [decide_eq_decide.2 (eq_comm:a.name=b.name ↔ b.name=a.name),decide_eq_decide.2 (ne_comm:a.args.length ≠ b.args.length ↔ b.args.length ≠ a.args.length)]
theorem Pg (a:A):clash a a=false:=by simp [clash]
theorem RI {xs:List A} (h:∀ i,(y:i < xs.length)→∀ k,(I:k < i)→clash xs[i] (xs[k]'(by omega))=false):kH xs=true:=by
 rw [CV];simp only [Bool.not_eq_true',List.any_eq_false,Bool.not_eq_true];intro a ha b hb;obtain ⟨i,y,rfl⟩:=List.mem_iff_getElem.1 ha;obtain ⟨k,I,rfl⟩:=List.mem_iff_getElem.1 hb
 rcases Nat.lt_trichotomy i k with h1 | h1 | h1
 ·rw [O9]; exact h k I i h1
 ·subst h1; exact Pg _
 ·exact h i y k h1
theorem U3 {xs:List A} {i k:Nat} (y:i < xs.length) (I:k < xs.length) (h:clash xs[i] xs[k]=true):kH xs=false:=by
 rw [CV];simp only [Bool.not_eq_false',List.any_eq_true];exact ⟨_,δ y,_,δ I,h⟩
def eU (rs:List Ru):Nat:=
 if rs.all eY=false then 1 else if 8 < rs.length then 2 else if kH (aB rs)=false then 3 else if (rs.all fun r=>fO r.head r.body)=false then 4 else if mG rs=true then 5 else 0
theorem LM (rs:List Ru):eU rs≤5:=by unfold eU; repeat (first | omega | split)
structure Fine (rs:List Ru):Prop where
 ok:rs.all eY=true
 few:rs.length≤8
 alike:kH (aB rs)=true
 tight:(rs.all fun r=>fO r.head r.body)=true
 no:mG rs=false
theorem nO (rs:List Ru):eU rs=0 ↔ Fine rs:=by
 unfold eU;constructor
 ·intro h
  split at h
  ·omega
  ·rename_i h1
   split at h
   ·omega
   ·rename_i U
    split at h
    ·omega
    ·rename_i y
     split at h
     ·omega
     ·rename_i I
      split at h
      ·omega
      ·rename_i J
       exact ⟨by simpa using h1,by omega,by simpa using y,by simpa using I,by simpa using J⟩
 ·rintro ⟨h1,U,y,I,J⟩
  rw [if_neg (by simp [h1]),if_neg (by omega),if_neg (by simp [y]),if_neg (by simp [I]),if_neg (by simp [J])]
theorem kJ {r:Ru} (h:eY r=true):r.body.length≤4∧(∀ a ∈ jV r,aZ a=true)∧∀ a ∈ jV r,a.args.length≤3:=by
 unfold eY qf at h;simp only [ο,decide_eq_true_eq,ό] at h
 have h1:∀ a ∈ jV r,aZ a=true:=fun a ha=>by
  unfold jV at ha
  rcases ύ.1 ha with rfl | ha
  ·exact h.2
  ·obtain ⟨p,y,rfl⟩:=List.mem_map.1 ha
   exact h.1.2 p y
 exact ⟨h.1.1,h1,fun a ha=>by
  have:=h1 a ha;unfold aZ at this;simp only [ο,decide_eq_true_eq] at this
  exact this.1.2⟩
theorem yI {rs:List Ru} {a:A} (h:a ∈ aB rs):∃ r ∈ rs,a ∈ jV r:=by
 obtain ⟨r,hr,ha⟩:=List.mem_flatMap.1 h;exact ⟨r,hr,ha⟩
theorem jO {rs:List Ru} (h:rs.all eY=true):(∀ a ∈ aB rs,a.args.length≤3)∧(aB rs).length≤5 * rs.length:=by
 refine ⟨fun a ha=>?_,?_⟩
 ·obtain ⟨r,hr,ha⟩:=yI ha
  exact (kJ (ό.1 h r hr)).2.2 a ha
 ·unfold aB
  induction rs with
  | nil=>simp
  | cons r rs ih=>
   simp only [List.all_cons,ο] at h;have h1:=(kJ h.1).1;have y:=ih h.2;simp only [List.flatMap_cons,χ,List.length_cons,jV,List.length_map] at *;omega
end D
namespace D
open Go.RowKit Go.Lib
def AY (s:ByteArray):T:=⟨tV s,s⟩
def U4:A:=⟨⟨#[]⟩,[]⟩
def EH (nm inner:List UInt8):A:=⟨toB nm,if inner = [] then [] else (pI 44 inner).map fun w=>AY (toB w)⟩
def Y0 (t:List UInt8):A × Bool:=if 1500 < t.length then (U4,false) else
 if (cut t [40]).2.2=true∧(cut t [40]).2.1.getLast? = some 41 then (if aZ (EH (cut t [40]).1 (cut t [40]).2.1.dropLast) then (EH (cut t [40]).1 (cut t [40]).2.1.dropLast,true) else (U4,false)) else (U4,false)
theorem EI:∀ (y:List (List UInt8)),mg (y.map fun w=>AY (toB w))=joinL 44 y:=by
 have key:∀ (y:List (List UInt8)) (n:Nat),((y.map fun w=>AY (toB w)).zipIdx n).flatMap (fun x=>(if x.2=0 then [] else [44]) ++ x.1.name.data.toList)=(if n=0 then joinL 44 y else if y = [] then [] else 44 :: joinL 44 y):=by
  intro y
  induction y with
  | nil=>intro n; split <;> rfl
  | cons p ps ih=>
   intro n;rw [List.map_cons,List.zipIdx_cons,List.flatMap_cons,ih (n+1),if_neg (Nat.succ_ne_zero n)]
   cases ps with
   | nil=>
    by_cases hn:n=0
    ·subst hn; simp [joinL,AY,toB]
    ·simp [hn,joinL,AY,toB]
   | cons q r=>
    by_cases hn:n=0
    ·subst hn; simp [joinL,AY,toB]
    ·simp [hn,joinL,AY,toB]
 intro y;have:=key y 0;simpa [mg] using this
theorem Js (c:UInt8) (h:low c=true):c ≠ 40∧c ≠ 41∧c ≠ 44∧c ≠ 32:=by
 refine ⟨?_,?_,?_,?_⟩ <;> (intro e; subst e; exact absurd h (by decide))
theorem U5 {s:ByteArray} (h:jc s=true):(40:UInt8) ∉ s.data.toList:=by
 unfold jc at h;simp only [ο] at h;intro hm;exact (Js _ (ό.1 h.1.2 _ hm)).1 rfl
end D
end Go.Proofs.YtkjinanbccloeaaGreatDoor
