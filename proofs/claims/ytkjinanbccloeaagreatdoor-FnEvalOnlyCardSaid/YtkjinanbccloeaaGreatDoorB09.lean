/- Of the proof of FnEvalOnly: Cmp, Draw, Fs, Args, oP. -/
import Derived.Test.YtkjinanbccloeaaGreatDoorB06
import Derived.ProofKit
import Derived.OpenShut
import Derived.ShutString
import Derived.WideKeyEntry
set_option linter.unusedVariables false
set_option maxHeartbeats 2000000
set_option maxRecDepth 100000
namespace Go.Proofs.YtkjinanbccloeaaGreatDoor
section
open Go.RowKit D
attribute [local go_sem ↓] Go.wp_at_zero Go.wp_at_succ
theorem kE (a b:ByteArray) (w:World):
  Calls Tryz.prog 124 #[.string a,.string b] w fun e w'=>e=.returned (.int .i64 (fA a b))∧w'=w:=by
 rw [← Gw];exact Tryz.strings_Compare a b w
theorem MZ (t u:T) (w:World):
  Calls Tryz.prog 126 #[.agg #[.bool t.var,.string t.name],.agg #[.bool u.var,.string u.name]] w fun e w'=>e=.returned (.int .i64 (fA t.name u.name))∧Below w.heap.size w w':=by
 go_enter Tryz.func126,Tryz.ntmps126
 go_wp2_with (go_at_call 124; refine (kE _ _ _).mono ?_; rintro e w' ⟨rfl,rfl⟩)
 go_ret;exact ⟨rfl,(ζ).alloc (by simp) _⟩
theorem zG (I us:List T) (v1 v2:Value) (b1 b2:List Nat) (w:World) (h1:eP w [v1] I b1) (h2:eP w [v2] us b2):
  Calls Tryz.prog 125 #[v1,v2,.func (.func 126) #[] #[]] w
   fun e w'=>e=.returned (.int .i64 (kL I us))∧Below w.heap.size w w':=by
 obtain ⟨Ad,cap,rfl,hl,hm⟩:=ak h1;obtain ⟨a6,cap2,rfl,a2,a1⟩:=ak h2;have a7:=aA (τ hl hm);have a5:=aA (τ a2 a1);clear hm a1
 go_enter Tryz.func125,Tryz.ntmps125
 go_wp2
 go_loopw [13] (fun i wr=>∃ k:Nat,k≤I.length∧k≤us.length∧i=.int .i64 k∧kL I us=kL (I.drop k) (us.drop k)∧Below w.heap.size w wr) (fun i _=>I.length - (intOf i).toNat)
 case atStart=>exact ⟨0,ε,ε,rfl,rfl,ϑ⟩
 case round=>
  obtain ⟨k,hk,a8,rfl,hc,J⟩:=hrel;have HC:=η hc;clear hc;by_cases a0:k < I.length
  ·obtain ⟨b,o,rfl,_,c0,c1,_⟩:=dY (aN.below h1 J) a0
   have hA:Below wr.heap.size wr (wr.alloc (.cells #[.bool I[k].var,.string I[k].name] 91)):=ζ;by_cases y:k < us.length
   ·obtain ⟨b',o',rfl,_,d0,d1,_⟩:=dY (aN.below h2 (J.trans (hA.mono J.size))) y
    have U:=η (uo a0 y);clear h1 h2
    go_wp2_with fail
    refine (MZ I[k] us[k] _).mono ?_;rintro e w' ⟨rfl,a3⟩;have B':Below w.heap.size w w':=(((J.alloc J.size _).alloc (by have:=J.size; simp; omega) _)).trans (a3.mono (by have:=J.size; simp; omega));by_cases hz:fA I[k].name us[k].name=0
    ·have a4:(fA I[k].name us[k].name == 0)=true:=by simp [hz]
     have HZ:=η hz;clear hz hA;go_wp2;go_roundw
     case rel=>exact ⟨k+1,by omega,by omega,by go_num,by rw [HC.out,U.out,if_pos HZ.out],B'⟩
     case measure=>simp [intOf]; omega
    ·have a4:(fA I[k].name us[k].name == 0)=false:=by simp [hz]
     have HZ:=η hz;clear hz hA;go_wp2;go_ret;exact ⟨dO (by rw [HC.out,U.out,if_neg HZ.out]),B'⟩
   ·clear h1 h2
    have U:=η (uq a0 (Nat.le_of_not_lt y));go_wp2;go_ret;exact ⟨dO (by rw [HC.out,U.out]),J.trans (hA.mono J.size)⟩
  ·have he:I.length≤k:=by omega
   by_cases y:k < us.length
   ·have U:=η (uw he y)
    have hx:I.length < us.length:=by omega
    go_wp2;go_ret;exact ⟨dO (by rw [HC.out,U.out]),J⟩
   ·have U:=η (uy he (Nat.le_of_not_lt y))
    have hx:¬ I.length < us.length:=by omega
    go_wp2;go_ret;exact ⟨dO (by rw [HC.out,U.out]),J⟩
theorem Et (a b:A) (c0 c1 d0 d1:Value) (b1 b2:List Nat) (w:World) (h1:aG w [c0,c1] a b1) (U:aG w [d0,d1] b b2):
  Calls Tryz.prog 64 #[.agg #[c0,c1],.agg #[d0,d1]] w fun e w'=>e=.returned (.int .i64 (dD a b))∧Below w.heap.size w w':=by
 obtain ⟨Ad,cap,rfl,rfl⟩:=aY h1;obtain ⟨Ae,y,rfl,rfl⟩:=aY U;have hq:=fun w' (hb:Below w.heap.size w w')=>zG a.args b.args (.slice Ad a.args.length cap) (.slice Ae b.args.length y) b1 b2 w' (dm (aj.below h1 hb)) (dm (aj.below U hb))
 have hc:dD a b=if fA a.name b.name=0 then kL a.args b.args else fA a.name b.name:=rfl
 have HC:=η hc;clear h1 U hc;have J:=((Below.refl w.heap.size w).alloc ν (.cells #[.string a.name,.slice Ad a.args.length cap] 33)).alloc (by simp) (.cells #[.string b.name,.slice Ae b.args.length y] 33);by_cases I:fA a.name b.name=0
 ·have a0:(fA a.name b.name != 0)=false:=by simp [I]
  have HZ:=η I;clear I
  go_enter Tryz.func64,Tryz.ntmps64
  go_wp2_with (go_at_call 124; refine (kE _ _ _).mono ?_; rintro e w' ⟨rfl,rfl⟩)
  refine (hq _ J).mono ?_;rintro e w' ⟨rfl,a1⟩;go_wp2;go_ret;exact ⟨dO (by rw [HC.out,if_pos HZ.out]),J.trans (a1.mono J.size)⟩
 ·have a0:(fA a.name b.name != 0)=true:=by simp [I]
  have HZ:=η I;clear I
  go_enter Tryz.func64,Tryz.ntmps64
  go_wp2_with (go_at_call 124; refine (kE _ _ _).mono ?_; rintro e w' ⟨rfl,rfl⟩)
  go_ret;exact ⟨dO (by rw [HC.out,if_neg HZ.out]),J⟩
theorem Fv:(Tryz.prog.info? 91).map (fun i=>(i.zero,i.size,i.bytes))=some (some (.agg #[.bool false,.string ⟨#[]⟩]),2,24):=by kernel_rfl
theorem kH.fM {g p N:Nat} {w w':World} (h:kH g p w) (I:Below N w w') (J:g < N):kH g p w':=by
 obtain ⟨U,n,cap,h1,h2,h3⟩:=h;refine ⟨U,n,cap,(I.block g J).trans h1,h2,fun k hk=>?_⟩;obtain ⟨b,o,c,e,y,h4,h5⟩:=h3 k hk;exact ⟨b,o,c,e,y,(World.cell?_of_block (w:=w) (I.block b (by omega))).trans h4,h5⟩
def D.Sm (s:ByteArray):Prop:=s.size≤16∧s.data.toList ≠ [122,122,122]∧s.data.toList.all (fun c=>c != 10)=true
instance (s:ByteArray):Decidable (D.Sm s):=by unfold D.Sm; infer_instance
theorem D.Sm.max {s:ByteArray} (h:Sm s):s.size≤maxLen:=τ h.1 (by decide)
def Word (g p:Nat) (w:World) (e:Ending) (w':World):Prop:=∃ s:ByteArray,e=.returned (.string s)∧Sm s∧kH g (p+1) w'∧aH [g] w w'
theorem pW (g p:Nat) (y:List ByteArray) (n:Nat) (w:World) (h:kH g p w) (U:p≤1000000) (hn:y.length=n) (h1:1≤n) (h2:n≤100) (I:∀ s ∈ y,Sm s):
  Calls Tryz.prog 159 #[.pointer (some ⟨g,0,none⟩),.slice (some ⟨w.heap.size,0,none⟩) n n] (w.alloc (.cells (y.map Value.string).toArray 9)) (Word g p w):=by
 subst hn;have J:Below w.heap.size w (w.alloc (.cells (y.map Value.string).toArray 9)):=ζ;have a0:=h.lt;refine (RN g p _ y _ _ (h.below J) (tK (cap:=y.length) (ω w _) ν (by unfold maxLen; omega) (fun s hm=>Sm.max (I s hm))) U h1 (by omega) (by split <;> simp <;> omega)).mono ?_;rintro e w' ⟨s,rfl,hm,hR,hG⟩;exact ⟨s,rfl,I s hm,hR,(aH.of_below J).trans (aH.dM hG)⟩
structure jo (g p:Nat) (w:World) (n0 n1:Nat) (nm:ByteArray) (v:Value) (L:List Value) (xs:List T) (wr:World):Prop where
 r0:∃ x y,wr.heap[n0]? = some (.cells #[x,y] 33 (0,0))
 r1:wr.heap[n1]? = some (.cells #[.string nm,v] 33 (0,0))
 h0:w.heap.size≤n0
 h1:w.heap.size≤n1
 ne:n0 ≠ n1
 coll:aZ 2 jb w.heap.size 91 wr v L xs []
 rdr:kH g p wr
 kept:aH [g] w wr
 glt:g < w.heap.size
 small:∀ t ∈ xs,Sm t.name
section
variable {g p:Nat} {w:World} {n0 n1:Nat} {nm:ByteArray} {v:Value} {L:List Value} {xs:List T} {wr:World}
theorem jo.call {p2:Nat} {J:World} (h:jo g p w n0 n1 nm v L xs wr) (hR:kH g p2 J) (hK:aH [g] wr J):jo g p2 w n0 n1 nm v L xs J:=by
 have U:=h.glt; have h0:=h.h0; have h1:=h.h1
 obtain ⟨x,y,I⟩:=h.r0;exact ⟨⟨x,y,(hK.block n0 (ψ I) (by simp; omega)).trans I⟩,(hK.block n1 (ψ h.r1) (by simp; omega)).trans h.r1,h0,h1,h.ne,h.coll.Om bD hK U (by simp),hR,h.kept.trans hK,U,h.small⟩
theorem jo.drew (h:jo g p w n0 n1 nm v L xs wr):jo g p w n0 n1 nm v L xs wr.drew:=
 ⟨h.r0,h.r1,h.h0,h.h1,h.ne,⟨h.coll.own,h.coll.row.keep bD fun _ _=>rfl,h.coll.far⟩,h.rdr.drew,h.kept.drew,h.glt,h.small⟩
theorem jo.alloc (h:jo g p w n0 n1 nm v L xs wr) (o:Obj):jo g p w n0 n1 nm v L xs (wr.alloc o):=by
 obtain ⟨x,y,I⟩:=h.r0;have J:Below wr.heap.size wr (wr.alloc o):=ζ;exact ⟨⟨x,y,(J.block n0 (ψ I)).trans I⟩,(J.block n1 (ψ h.r1)).trans h.r1,h.h0,h.h1,h.ne,h.coll.below bD J,h.rdr.below J,h.kept.fM J h.kept.size,h.glt,h.small⟩
theorem jo.cell0 (h:jo g p w n0 n1 nm v L xs wr):wr.cell? ⟨n1,0,none⟩=some (.string nm):=ai h.r1
theorem jo.cell1 (h:jo g p w n0 n1 nm v L xs wr):wr.cell? ⟨n1,1,none⟩=some v:=ai h.r1
theorem jo.tq (h:jo g p w n0 n1 nm v L xs wr) (o:Nat):wr.frozen? ⟨n1,o,none⟩=false:=ax h.r1
theorem jo.tN (h:jo g p w n0 n1 nm v L xs wr) (o:Nat):wr.frozen? ⟨n0,o,none⟩=false:=by obtain ⟨x,y,I⟩:=h.r0; exact ax I
theorem jo.lit (b:Bool) (s:ByteArray) (h:jo g p w n0 n1 nm v L xs wr) (y:Sm s):
  aZ 2 jb w.heap.size 91 (wr.alloc (.cells #[.bool b,.string s] 91)) v L xs []∧aQ 2 jb (wr.alloc (.cells #[.bool b,.string s] 91)) [.bool b,.string s] [⟨b,s⟩] []∧Lies (wr.alloc (.cells #[.bool b,.string s] 91)) (some ⟨wr.heap.size,0,none⟩) [.bool b,.string s]∧Below w.heap.size wr (wr.alloc (.cells #[.bool b,.string s] 91))∧w.heap.size≤(wr.alloc (.cells #[.bool b,.string s] 91)).heap.size∧Sm s:=by
 have I:=h.alloc (.cells #[.bool b,.string s] 91);exact ⟨I.coll,aQ.dh jE ⟨rfl,Sm.max y,rfl⟩,aS (ω wr _),ϑ.alloc h.kept.size _,I.kept.size,y⟩
theorem jo.app {I:World} {o:Obj} {v3:Value} {L3:List Value} {u:T} (h:jo g p w n0 n1 nm v L xs wr) (hC:aZ 2 jb w.heap.size 91 I v3 L3 (xs ++ [u]) []) (hB:Below w.heap.size wr I) (hG:(wr.alloc o).grownBy I v.ownBlock) (hu:Sm u.name):
  I.cell? ⟨n1,0,none⟩=some (.string nm)∧I.cell? ⟨n1,1,none⟩=some v∧I.frozen? ⟨n1,1,none⟩=false∧jo g p w n0 n1 nm v3 L3 (xs ++ [u]) (I.setCell ⟨n1,1,none⟩ v3):=by
 have U:=h.alloc o;obtain ⟨x,y,J⟩:=U.r0;have b0:=(hG.block n0 (ψ J) (iQ U.coll.own J (by decide)).symm).trans J;have b1:=(hG.block n1 (ψ U.r1) (iQ U.coll.own U.r1 (by decide)).symm).trans U.r1;refine ⟨ai b1,ai b1,ax b1,⟨x,y,(π _ _ _ _ h.ne).trans b0⟩,zT b1,h.h0,h.h1,h.ne,hC.lZ bD (iQ hC.own b1 (by decide)) (by simp),?_,(h.kept.fM hB ν).GK h.h1 _,h.glt,fun t ht=>(μ.1 ht).elim (h.small t) fun e=>by rw [List.mem_singleton.1 e]; exact hu⟩;exact (h.rdr.fM hB h.glt).fM ((Below.refl w.heap.size I).setCell h.h1 _) h.glt
theorem jo.name (h:jo g p w n0 n1 nm v L xs wr) (s:ByteArray):jo g p w n0 n1 s v L xs (wr.setCell ⟨n1,0,none⟩ (.string s)):=by
 obtain ⟨x,y,I⟩:=h.r0;exact ⟨⟨x,y,(π _ _ _ _ h.ne).trans I⟩,AU h.r1,h.h0,h.h1,h.ne,h.coll.lZ bD (iQ h.coll.own h.r1 (by decide)) (by simp),h.rdr.fM ((Below.refl w.heap.size wr).setCell h.h1 _) h.glt,h.kept.GK h.h1 _,h.glt,h.small⟩
end
def Jm (k g p q:Nat) (w:World) (e:Ending) (w':World):Prop:=
 ∃ (a:A) (v:Value) (L:List Value) (y:Nat),e=.returned (.agg #[.string a.name,v])∧Sm a.name∧a.args.length≤k∧aZ 2 jb w.heap.size 91 w' v L a.args []∧kH g y w'∧y≤p+q∧aH [g] w w'
def Jo (k g p q:Nat) (w:World) (e:Ending) (w':World):Prop:=
 ∃ (a:A) (v:Value) (L:List Value) (y:Nat),e=.returned (.agg #[.string a.name,v])∧Sm a.name∧a.args.length≤k∧aZ 2 jb w.heap.size 91 w' v L a.args []∧kH g y w'∧y≤p+q∧aH [g] w w'∧∀ t ∈ a.args,Sm t.name
theorem Jo.weak {k g p q:Nat} {w:World} {e:Ending} {w':World} (h:Jo k g p q w e w'):Jm k g p q w e w':=by
 obtain ⟨a,v,L,y,h1,I,J,U,h5,h6,h7,_⟩:=h;exact ⟨a,v,L,y,h1,I,J,U,h5,h6,h7⟩
theorem jo.done {g p:Nat} {w:World} {n0 n1:Nat} {nm:ByteArray} {v:Value} {L:List Value} {xs:List T} {wr:World} {k q p0:Nat} (h:jo g p w n0 n1 nm v L xs wr) (J:Sm nm) (U:xs.length≤k) (hp:p≤p0+q):
  Jo k g p0 q w (.returned (.agg #[.string nm,v])) ((wr.setCell ⟨n0,0,none⟩ (.string nm)).setCell ⟨n0,1,none⟩ v):=by
 obtain ⟨x,y,I⟩:=h.r0;have hB:Below w.heap.size wr ((wr.setCell ⟨n0,0,none⟩ (.string nm)).setCell ⟨n0,1,none⟩ v):=(ϑ.setCell h.h0 _).setCell h.h0 _;have b0:=AU (u:=.string nm) I;have c1:=h.coll.lZ (o:=0) (u:=.string nm) bD (iQ h.coll.own I (by decide)) (by simp);exact ⟨⟨nm,xs⟩,v,L,p,rfl,J,U,c1.lZ bD (iQ c1.own b0 (by decide)) (by simp),h.rdr.fM hB h.glt,hp,h.kept.fM hB ν,h.small⟩
theorem yV (g p:Nat) (w:World) (h:kH g p w) (J:p≤1000000):
  Calls Tryz.prog 212 #[.pointer (some ⟨g,0,none⟩)] w (Word g p w):=by
 have y:=pW g p [⟨#[97]⟩,⟨#[98]⟩,⟨#[99]⟩,⟨#[100]⟩,⟨#[97]⟩,⟨#[98]⟩] 6 w h J rfl (by decide) (by decide) (by decide);clear h
 go_enter Tryz.func212,Tryz.ntmps212
 go_wp2_with fail
 refine y.mono ?_;rintro e w1 ⟨s,rfl,U,I,hK⟩;have H:=η (ι I hK);clear I hK y;go_wp2;go_ret;exact ⟨s,rfl,U,H.out.1,H.out.2⟩
theorem Na (g p:Nat) (w:World) (h:kH g p w) (J:p≤1000000):
  Calls Tryz.prog 211 #[.pointer (some ⟨g,0,none⟩)] w (Word g p w):=by
 have y:=pW g p [⟨#[88]⟩,⟨#[89]⟩,⟨#[90]⟩,⟨#[88]⟩,⟨#[89]⟩] 5 w h J rfl (by decide) (by decide) (by decide);clear h
 go_enter Tryz.func211,Tryz.ntmps211
 go_wp2_with fail
 refine y.mono ?_;rintro e w1 ⟨s,rfl,U,I,hK⟩;have H:=η (ι I hK);clear I hK y;go_wp2;go_ret;exact ⟨s,rfl,U,H.out.1,H.out.2⟩
theorem Jp (nm:ByteArray) (w:World):
  Calls Tryz.prog 210 #[.string nm] w fun e w'=>∃ k:Nat,k≤3∧e=.returned (.int .i64 k)∧Below w.heap.size w w':=by
 cases n0:(nm.toList == [101])
 ·skip
  cases n1:(nm.toList == [116])
  ·skip
   cases n2:(nm.toList == [122])
   ·skip
    cases n3:(nm.toList == [104])
    ·skip
     go_enter Tryz.func210,Tryz.ntmps210
     go_wp2;go_ret;exact ⟨1,by decide,rfl,ϑ⟩
    ·skip
     go_enter Tryz.func210,Tryz.ntmps210
     go_wp2;go_ret;exact ⟨3,by decide,rfl,ϑ⟩
   ·skip
    go_enter Tryz.func210,Tryz.ntmps210
    go_wp2;go_ret;exact ⟨0,by decide,rfl,ϑ⟩
  ·skip
   go_enter Tryz.func210,Tryz.ntmps210
   go_wp2;go_ret;exact ⟨2,by decide,rfl,ϑ⟩
 ·skip
  go_enter Tryz.func210,Tryz.ntmps210
  go_wp2;go_ret;exact ⟨2,by decide,rfl,ϑ⟩
theorem mX (nm:ByteArray) (vars:Bool) (g p:Nat) (w:World) (h:kH g p w) (hp:p≤900000) (hs:Sm nm):
  Calls Tryz.prog 162 #[.pointer (some ⟨g,0,none⟩),.string nm,.bool vars] w (Jo 3 g p 6 w):=by
 obtain ⟨i0,hi,aa,ab,ac⟩:=info_parts Fv;have HS:=η hs;have aD:=η hp;have ae:Below w.heap.size w ((w.alloc (.cells #[.string ⟨#[]⟩,.slice none 0 0] 33)).alloc (.cells #[.string nm,.slice none 0 0] 33)):=(ζ).alloc (by simp) _;have ht:=lG w (.cells #[.string ⟨#[]⟩,.slice none 0 0] 33) (.cells #[.string nm,.slice none 0 0] 33)
 have I:Hid (jo g p w w.heap.size (w.heap.size+1) nm (.slice none 0 0) [] [] ((w.alloc (.cells #[.string ⟨#[]⟩,.slice none 0 0] 33)).alloc (.cells #[.string nm,.slice none 0 0] 33))):=
  η ⟨⟨_,_,ht.1⟩,ht.2,ν,Nat.le_succ _,by omega,aZ.nil _,h.below ae,aH.of_below ae,h.lt,by simp⟩
 have ao:=Jp nm ((w.alloc (.cells #[.string ⟨#[]⟩,.slice none 0 0] 33)).alloc (.cells #[.string nm,.slice none 0 0] 33));clear h hs hp ae ht
 go_enter Tryz.func162,Tryz.ntmps162
 go_wp2_with fail
 refine ao.mono ?_;rintro e w1 ⟨k0,a9,rfl,af⟩;have ap:=η (I.out.call (I.out.rdr.below af) (aH.of_below af));clear I ao af;go_wp2
 go_loopw [8] (fun n wr=>∃ (k:Nat) (xs:List T) (Av:Option Addr) (cv:Nat) (L:List Value) (p':Nat),k≤3∧n=.int .i64 k∧xs.length+k≤3∧p'+2 * k≤p+6∧p'≤p+6∧jo g p' w w.heap.size (w.heap.size+1) nm (.slice Av xs.length cv) L xs wr) (fun n _=>(intOf n).toNat)
 case atStart=>exact ⟨k0,[],none,0,[],p,a9,rfl,by simpa using a9,by omega,by omega,ap.out⟩
 case round=>
  obtain ⟨k,xs,Av,cv,L,p',hk,rfl,hx,aq,ar,hI⟩:=hrel;have U:=η hI;have HP:Hid (p'+2 * k≤900006∧p'+2 * k≤p+6∧p'≤p+6):=η (by have:=aD.out; omega);have ag:Hid (xs.length+1≤maxLen):=η (by unfold maxLen; omega);have am:Hid ((xs.length+1) * 24≤140737488355328):=η (by omega);clear hI ap;by_cases a6:0 < k
  ·have aE:(0:Int) < (k:Int):=by omega
   have aL:(k:Int)≤3:=by omega
   have HW:Hid (wrap64 ((k:Int) - 1)=((k - 1:Nat):Int)):=η (by unfold wrap64; omega);have J:Hid (0 < k∧k≤3∧xs.length+k≤3):=η ⟨a6,hk,hx⟩;clear aq ar hx hk a9 a6;cases vars
   ·skip
    have I:=η U.out.drew;have q0:=I.out.cell0;have q1:=I.out.cell1;have q2:=I.out.tq 1;go_wp2
    go_region_law
     (first
      | (go_simp; go_at_call 212; refine (yV g _ _ I.out.rdr (by have:=HP.out; omega)).mono ?_; rintro e w2 ⟨s,rfl,a0,a1,a2⟩; replace I:=η (I.out.call a1 a2); replace q0:=I.out.cell0; replace q1:=I.out.cell1; replace q2:=I.out.tq 1; have q3:w.heap.size+1 < w2.heap.size:=lt_of_cell q1; have HT:=η (I.out.lit false s a0); clear a1 a2 a0)
      | (refine aT (by rfl) (.tmp 32) (.tmp 36) _ (by rfl) w.heap.size 91 i0 (.agg #[.bool false,.string ⟨#[]⟩]) 2 24 Tryz.underlying31 hi aa ab ac rfl (Θ 1) bD (.slice Av xs.length cv) xs.length L xs [] (by rfl) HT.out.1 rfl (some ⟨w2.heap.size,0,none⟩) 1 1 _ [⟨false,s⟩] _ (by rfl) HT.out.2.1 rfl HT.out.2.2.1 (fun b hb=>by simp at hb) ag.out am.out w2 w.heap.size HT.out.2.2.2.1 ν HT.out.2.2.2.2.1 ?_; intro A3 c3 w3 a3 a4 a7 a5; have HZ:=η (I.out.app a3 a4 a5 HT.out.2.2.2.2.2); replace q0:=HZ.out.1; replace q1:=HZ.out.2.1; replace q2:=HZ.out.2.2.1; clear a3 a4 a7 a5))
    all_goals
     have a8:=η HZ.out.2.2.2;clear I HT HZ q0 q1 q2 q3;go_wp2;go_roundw
     case rel=>exact ⟨k - 1,xs ++ [⟨false,s⟩],A3,c3,L ++ [.bool false,.string s],p'+1,by have:=J.out; omega,(by first | rw [HW.out] | (have:=J.out; go_num)),by have:=J.out; simp; omega,by have:=HP.out; have:=J.out; omega,by have:=HP.out; have:=J.out; omega,by simpa using a8.out⟩
     case measure=>have:=J.out; (try rw [HW.out]); simp [intOf]; omega
   ·have av:=pick_any g p' 6 wr U.out.rdr (by have:=HP.out; omega) (by omega) (by omega)
    go_wp2_with fail
    refine av.mono ?_;rintro e w9 ⟨j,rfl,hj,aw,az⟩;replace U:=η (U.out.call aw (aH.dM az));clear av aw az;by_cases aM:0 < j
    ·have aR:(0:Int) < (j:Int):=by omega
     have I:=η U.out.drew;have q0:=I.out.cell0;have q1:=I.out.cell1;have q2:=I.out.tq 1;go_wp2
     go_region_law
      (first
       | (go_simp; go_at_call 211; refine (Na g _ _ I.out.rdr (by have:=HP.out; omega)).mono ?_; rintro e w2 ⟨s,rfl,a0,a1,a2⟩; replace I:=η (I.out.call a1 a2); replace q0:=I.out.cell0; replace q1:=I.out.cell1; replace q2:=I.out.tq 1; have q3:w.heap.size+1 < w2.heap.size:=lt_of_cell q1; have HT:=η (I.out.lit true s a0); clear a1 a2 a0)
       | (refine aT (by rfl) (.tmp 24) (.tmp 28) _ (by rfl) w.heap.size 91 i0 (.agg #[.bool false,.string ⟨#[]⟩]) 2 24 Tryz.underlying31 hi aa ab ac rfl (Θ 1) bD (.slice Av xs.length cv) xs.length L xs [] (by rfl) HT.out.1 rfl (some ⟨w2.heap.size,0,none⟩) 1 1 _ [⟨true,s⟩] _ (by rfl) HT.out.2.1 rfl HT.out.2.2.1 (fun b hb=>by simp at hb) ag.out am.out w2 w.heap.size HT.out.2.2.2.1 ν HT.out.2.2.2.2.1 ?_; intro A3 c3 w3 a3 a4 a7 a5; have HZ:=η (I.out.app a3 a4 a5 HT.out.2.2.2.2.2); replace q0:=HZ.out.1; replace q1:=HZ.out.2.1; replace q2:=HZ.out.2.2.1; clear a3 a4 a7 a5))
     all_goals
      have a8:=η HZ.out.2.2.2;clear I HT HZ q0 q1 q2 q3;go_wp2;go_roundw
      case rel=>exact ⟨k - 1,xs ++ [⟨true,s⟩],A3,c3,L ++ [.bool true,.string s],p'+1+1,by have:=J.out; omega,(by first | rw [HW.out] | (have:=J.out; go_num)),by have:=J.out; simp; omega,by have:=HP.out; have:=J.out; omega,by have:=HP.out; have:=J.out; omega,by simpa using a8.out⟩
      case measure=>have:=J.out; (try rw [HW.out]); simp [intOf]; omega
    ·obtain rfl:j=0:=by omega
     have I:=η U.out.drew;have q0:=I.out.cell0;have q1:=I.out.cell1;have q2:=I.out.tq 1;go_wp2
     go_region_law
      (first
       | (go_simp; go_at_call 212; refine (yV g _ _ I.out.rdr (by have:=HP.out; omega)).mono ?_; rintro e w2 ⟨s,rfl,a0,a1,a2⟩; replace I:=η (I.out.call a1 a2); replace q0:=I.out.cell0; replace q1:=I.out.cell1; replace q2:=I.out.tq 1; have q3:w.heap.size+1 < w2.heap.size:=lt_of_cell q1; have HT:=η (I.out.lit false s a0); clear a1 a2 a0)
       | (refine aT (by rfl) (.tmp 32) (.tmp 36) _ (by rfl) w.heap.size 91 i0 (.agg #[.bool false,.string ⟨#[]⟩]) 2 24 Tryz.underlying31 hi aa ab ac rfl (Θ 1) bD (.slice Av xs.length cv) xs.length L xs [] (by rfl) HT.out.1 rfl (some ⟨w2.heap.size,0,none⟩) 1 1 _ [⟨false,s⟩] _ (by rfl) HT.out.2.1 rfl HT.out.2.2.1 (fun b hb=>by simp at hb) ag.out am.out w2 w.heap.size HT.out.2.2.2.1 ν HT.out.2.2.2.2.1 ?_; intro A3 c3 w3 a3 a4 a7 a5; have HZ:=η (I.out.app a3 a4 a5 HT.out.2.2.2.2.2); replace q0:=HZ.out.1; replace q1:=HZ.out.2.1; replace q2:=HZ.out.2.2.1; clear a3 a4 a7 a5))
     all_goals
      have a8:=η HZ.out.2.2.2;clear I HT HZ q0 q1 q2 q3;go_wp2;go_roundw
      case rel=>exact ⟨k - 1,xs ++ [⟨false,s⟩],A3,c3,L ++ [.bool false,.string s],p'+1+1,by have:=J.out; omega,(by first | rw [HW.out] | (have:=J.out; go_num)),by have:=J.out; simp; omega,by have:=HP.out; have:=J.out; omega,by have:=HP.out; have:=J.out; omega,by simpa using a8.out⟩
      case measure=>have:=J.out; (try rw [HW.out]); simp [intOf]; omega
  ·obtain rfl:k=0:=by omega
   have q0:=U.out.cell0;have q1:=U.out.cell1;have f0:=U.out.tN 0;have f1:=U.out.tN 1
   have z0:∃ x y,wr.cell? ⟨w.heap.size,0,none⟩=some x∧wr.cell? ⟨w.heap.size,1,none⟩=some y:=by
    obtain ⟨x,y,hr⟩:=U.out.r0;exact ⟨x,y,ai hr,ai hr⟩
   obtain ⟨zx,zy,z0,z1⟩:=z0;have HD:=η (U.out.done (k:=3) (q:=6) (p0:=p) HS.out (by omega) (by omega));clear aq ar hx hk a9 a6;go_wp2;refine bodyPost_ret (v:=.agg #[.string nm,.slice Av xs.length cv]) (by simp [results,Tryz.results162,go_sem,z0,z1]) rfl HD.out
theorem Jq (nm:ByteArray) (vars:Bool) (g p:Nat) (w:World) (h:kH g p w) (y:p≤900000) (I:Sm nm):
 Calls Tryz.prog 162 #[.pointer (some ⟨g,0,none⟩),.string nm,.bool vars] w (Jm 3 g p 6 w):=(mX nm vars g p w h y I).mono fun _ _ h=>h.weak
theorem Cj (xs ys:List A) (v1 v2:Value) (b1 b2:List Nat) (w:World) (h:aU w [v1] xs b1) (y:aU w [v2] ys b2):
  Calls Tryz.prog 15 #[v1,v2] w (RP (xs=ys) w):=by
 obtain ⟨Ad,cap,rfl,hl,hm⟩:=ak h;obtain ⟨Ae,ac,rfl,a6,a7⟩:=ak y;have ae:=aA (τ hl hm);clear hl hm a6 a7;by_cases I:xs.length=ys.length
 ·have hq:((xs.length:Int) == (ys.length:Int))=true:=by simp [I]
  have HL:=η I;clear I
  go_enter Tryz.func15,Tryz.ntmps15
  go_wp2
  go_loopw [5] (fun i wr=>∃ k:Nat,k≤xs.length∧i=.int .i64 k∧(∀ j (h1:j < xs.length) (y:j < ys.length),j < k→xs[j]=ys[j])∧Below w.heap.size w wr) (fun i _=>xs.length - (intOf i).toNat)
  case atStart=>exact ⟨0,ε,rfl,fun j _ _ h=>by omega,ϑ⟩
  case round=>
   obtain ⟨k,hk,rfl,a0,hb⟩:=hrel;have HA:=η a0;clear a0;by_cases a2:k < xs.length
   ·have J:k < ys.length:=by have:=HL.out; omega
    obtain ⟨bb,o,A1,p1,a8,rfl,_,e0,e1,a3,_⟩:=dJ (au.below h hb) a2;obtain ⟨bc,o',A2,p2,a9,rfl,_,g0,g1,a1,_⟩:=dJ (au.below y hb) J;have af:(0:Int)≤(k:Int):=by omega
    have ag:(k:Int) < (xs.length:Int):=by omega
    have am:(k:Int) < (ys.length:Int):=by omega
    have a4:=η (ι a2 J)
    have HU:Hid (xs[k]=ys[k]→∀ j (h1:j < xs.length) (y:j < ys.length),j < k+1→xs[j]=ys[j]):=η (fun e j h1 y hj=>by
     by_cases aa:j=k
     ·subst aa; exact e
     ·exact HA.out j h1 y (by omega))
    have HV:Hid (xs[k] ≠ ys[k]→¬ xs=ys):=η (fun ab e=>ab (by subst e; rfl));have hf:=BO xs[k] ys[k] _ _ _ _ a8 a9 _ (aj.below a3 (ϑ.drew)) (aj.below a1 (ϑ.drew));generalize xs[k]=t at *;generalize ys[k]=u at *;clear h y a2 J a3 a1;go_wp2
    go_region_held3 (fun w'=>w'.cell? ⟨bb,o+k * 2,none⟩=some (.string t.name)∧w'.cell? ⟨bb,o+k * 2+1,none⟩=some (.slice A1 t.args.length p1)∧w'.cell? ⟨bc,o'+k * 2,none⟩=some (.string u.name)∧w'.cell? ⟨bc,o'+k * 2+1,none⟩=some (.slice A2 u.args.length p2)) (first | go_keep | exact ⟨q0,q1,q2,q3⟩)
     (first | (go_at_call 57; refine hf.mono ?_; rintro e w' ⟨r,rfl,hr,U⟩; have HR:=η hr; clear hr; have q0:=ξ U e0; have q1:=ξ U e1; have q2:=ξ U g0; have q3:=ξ U g1))
    have a5:Hid (Below w.heap.size w w'):=η (hb.trans ((ϑ.drew.trans U).mono hb.size));cases r
    ·have HW:=η (HV.out (fun e=>by have:=HR.out.2 e; cases this))
     go_wp2;go_ret;exact ⟨false,rfl,by simpa using HW.out,a5.out⟩
    ·have HW:=η (HU.out (HR.out.1 rfl))
     go_wp2;go_roundw
     case rel=>exact ⟨k+1,a4.out.1,by go_num,HW.out,a5.out⟩
     case measure=>have:=a4.out.1; simp [intOf]; omega
   ·have he:k=xs.length:=by omega
    have HW:Hid (xs=ys):=η (List.ext_getElem HL.out fun j h1 y=>HA.out j h1 y (by omega));subst he;clear h y;go_wp2;go_ret;exact ⟨true,rfl,by simpa using HW.out,hb⟩
 ·have hq:((xs.length:Int) == (ys.length:Int))=false:=beq_eq_false_iff_ne.2 (by omega)
  have HE:Hid (¬ xs=ys):=η (fun e=>I (by rw [e]));clear h y I
  go_enter Tryz.func15,Tryz.ntmps15
  go_wp2;go_ret;exact ⟨false,rfl,by simpa using HE.out,ϑ⟩
end
section
open Go.RowKit D Go.ChangeShapes Go.WideShapes
theorem own:ownKnob Tryz.prog.godebug=none:=by kernel_rfl
theorem laidOut:laidOutB Tryz.prog=true:=by kernel_rfl
theorem Vr {α:Type} {P:Program} {t:TypeId} {R:Rel α} (y:Opens P t R) {H:Type} {enc:TypeId × Value→H} {w:World} {spare:Nat→Bool} {held:Bool} {v:Value} {d:DataW H} {ps:List MemPlace}
  (h:DataW.Trod enc P w 0 spare held t v d ps):∃ x bs,R w v.cells.toList x bs:=by
 obtain ⟨fuel,hf⟩:=h;exact y H enc w spare held fuel _ _ hf
theorem Vs:Opens Tryz.prog 22 qH:=Ji Tryz.underlying22 (by kernel_rfl) (by omega) (MP Tryz.underlying5)
end
section
open Go.RowKit Go.ChangeMaps Go.MapKept D
structure D.oP (S:Value→Prop) (b:Nat) (L:List (Value × Value × Nat)) (c:Nat) (w:World):Prop where
 blk:∃ es,w.heap[b]? = some (.map es c)∧es.toList.map (fun e=>(e.key,e.val,e.born))=L
 keys:∀ p ∈ L,S p.1
 once:L.Pairwise fun p q=>p.1 ≠ q.1
 nums:(L.map fun p=>p.2.2).Nodup
 less:∀ p ∈ L,p.2.2 < c
section
variable {P:Program} {kt:TypeId} {W:World→Prop} {S:Value→Prop}
theorem D.oP.same {b c:Nat} {L:List (Value × Value × Nat)} {w w':World} (h:oP S b L c w) (e:w'.heap[b]? = w.heap[b]?):oP S b L c w':=by
 obtain ⟨⟨es,h1,y⟩,I,J,U,h6⟩:=h;exact ⟨⟨es,e.trans h1,y⟩,I,J,U,h6⟩
theorem D.oP.lt {b c:Nat} {L:List (Value × Value × Nat)} {w:World} (h:oP S b L c w):b < w.heap.size:=by
 obtain ⟨⟨es,h1,y⟩,I,J,U,h6⟩:=h;exact (Array.getElem?_eq_some_iff.1 h1).1
theorem D.oP.Xy {b c:Nat} {L:List (Value × Value × Nat)} {w:World} (h:oP S b L c w):gm S b (L.map fun p=>(p.1,p.2.1)) w:=by
 obtain ⟨⟨es,h1,y⟩,I,J,h5,h6⟩:=h;refine ⟨⟨es,c,h1,?_⟩,?_,?_⟩
 ·rw [← y,List.map_map]; rfl
 ·intro p U
  obtain ⟨q,hq,rfl⟩:=List.mem_map.1 U;exact I q hq
 ·exact List.pairwise_map.2 J
theorem D.oP.made (w:World):oP S w.heap.size [] 0 (w.alloc (.map #[] 0)):=
 ⟨⟨#[],(MapKept.heap_alloc w _).1,rfl⟩,fun p h=>by simp at h,List.Pairwise.nil,List.nodup_nil,fun p h=>by simp at h⟩
theorem D.Fz {α:Type} {A B:List α} {p:α}:(A ++ p :: B)[A.length]? = some p:=by simp
theorem GZ (hK:GN P kt W S) {w:World} (hW:W w) {t e:TypeId} (ht:P.underlying t=some (.map kt e)) {b c:Nat} {L:List (Value × Value × Nat)} {k z:Value} (h:oP S b L c w)
  (hz:(zeroValue e).run P w=.ok z w) (hS:S k) (hk:∀ p ∈ L,p.1 ≠ k):
  ∃ w',(Instr.mapEntry t (.map (some b)) k).run P w=.ok (.tuple #[z,goInt c]) w'∧oP S b (L ++ [(k,z,c)]) (c+1) w'∧w.grownBy w' (some b):=by
 obtain ⟨⟨es,J,rfl⟩,h2,h3,h4,h5⟩:=h;have a0:∀ e ∈ es.toList,S e.key:=fun e he=>h2 (e.key,e.val,e.born) (List.mem_map.2 ⟨e,he,rfl⟩)
 rcases kC hK hW hS es.toList a0 with ⟨h6,h7⟩ | ⟨i,U,h6,h7,h8⟩
 ·refine ⟨setBlock w b (.map (es.push ⟨k,z,c⟩) (c+1)),?_,⟨⟨_,heap_setBlock_same J _,by simp⟩,?_,?_,?_,?_⟩,jF J _⟩
  ·simp [Instr.mapEntry,run_underlying ht,MapKept.run_getObj_map J,hK.check w false hS,h6,hz,MapKept.run_setObj_map _ J,Result.andThen,setBlock]
  ·intro p I
   rcases μ.1 I with I | I
   ·exact h2 p I
   ·rw [List.mem_singleton.1 I]; exact hS
  ·refine List.pairwise_append.2 ⟨h3,List.pairwise_singleton _ _,fun p I q hq=>?_⟩
   rw [List.mem_singleton.1 hq];exact hk p I
  ·rw [List.map_append]
   refine List.nodup_append.2 ⟨h4,by simp,fun x hx y hy=>?_⟩;obtain ⟨p,I,rfl⟩:=List.mem_map.1 hx;have:=h5 p I;simp at hy;omega
  ·intro p I
   rcases μ.1 I with I | I
   ·exact Nat.lt_succ_of_lt (h5 p I)
   ·rw [List.mem_singleton.1 I]; exact Nat.lt_succ_self _
 ·exact absurd h8 (hk (U.key,U.val,U.born) (List.mem_map.2 ⟨U,List.mem_of_getElem? h7,rfl⟩))
theorem G5 (hK:GN P kt W S) {w:World} (hW:W w) {t e:TypeId} (ht:P.underlying t=some (.map kt e)) {b c n:Nat} {A B:List (Value × Value × Nat)} {k u:Value} (h:oP S b (A ++ (k,u,n) :: B) c w):
  ∃ w',(Instr.mapEntry t (.map (some b)) k).run P w=.ok (.tuple #[u,goInt n]) w'∧oP S b (A ++ (k,u,n) :: B) c w'∧w.grownBy w' (some b):=by
 obtain ⟨⟨es,hb,hL⟩,h2,h3,h4,h5⟩:=h;have hS:S k:=h2 (k,u,n) (by simp);have a3:∀ e ∈ es.toList,S e.key:=fun e he=>h2 (e.key,e.val,e.born) (hL ▸ List.mem_map.2 ⟨e,he,rfl⟩)
 rcases kC hK hW hS es.toList a3 with ⟨h6,J⟩ | ⟨i,U,h6,J,h8⟩
 ·have:(k,u,n) ∈ es.toList.map (fun e=>(e.key,e.val,e.born)):=by rw [hL]; simp
  obtain ⟨e0,a4,a0⟩:=List.mem_map.1 this;simp only [Prod.mk.injEq] at a0;exact absurd a0.1 (J e0 a4)
 ·have y:(A ++ (k,u,n) :: B)[i]? = some (U.key,U.val,U.born):=by rw [← hL]; simp [J]
  have a5:i=A.length:=by
   obtain ⟨a1,a2⟩:=List.getElem?_eq_some_iff.1 y
   rcases Nat.lt_trichotomy i A.length with hh | hh | hh
   ·exact absurd (by rw [a2]; simp [h8]) (List.pairwise_iff_getElem.1 h3 i A.length a1 (by simp) hh)
   ·exact hh
   ·exact absurd (by rw [a2]; simp [h8]) (List.pairwise_iff_getElem.1 h3 A.length i (by simp) a1 hh)
  subst a5;rw [Fz] at y;simp only [Option.some.injEq,Prod.mk.injEq] at y;obtain ⟨g1,g2,g3⟩:=y;have hj:es[A.length]? = some U:=by simpa using J
  have a6:(Instr.keyThatStays k k).run P w=.ok k w:=by simp [Instr.keyThatStays,hK.same hS]
  have I:es.modify A.length (fun e=>{ e with key:=k })=es:=by
   apply Array.ext';rw [Array.toList_modify,modify_eq_set _ _ _ _ J];have:({ U with key:=k }:MapEntry)=U:=by rw [← h8]
   rw [this];exact WideElems.set_self _ _ _ J
  refine ⟨setBlock w b (.map es c),?_,⟨⟨_,heap_setBlock_same hb _,hL⟩,h2,h3,h4,h5⟩,jF hb _⟩;simp [Instr.mapEntry,run_underlying ht,MapKept.run_getObj_map hb,hK.check w false hS,h6,hj,h8,a6,I,g2,g3,MapKept.run_setObj_map _ hb,Result.andThen,setBlock]
theorem Cm {w:World} {t:TypeId} {b c n:Nat} {A B:List (Value × Value × Nat)} {k u:Value} (v:Value) (h:oP S b (A ++ (k,u,n) :: B) c w):
  ∃ w',(Instr.entryStore t (.map (some b)) (goInt n) v).run P w=.ok () w'∧oP S b (A ++ (k,v,n) :: B) c w'∧w.grownBy w' (some b):=by
 obtain ⟨⟨es,hb,hL⟩,h2,h3,h4,h5⟩:=h
 obtain ⟨J,U,g⟩:∃ J,es.toList[A.length]? = some J∧(J.key,J.val,J.born)=(k,u,n):=by
  have:(es.toList.map fun e=>(e.key,e.val,e.born))[A.length]? = some (k,u,n):=by rw [hL]; exact Fz
  rw [List.getElem?_map] at this;exact Option.map_eq_some_iff.1 this
 simp only [Prod.mk.injEq] at g;obtain ⟨g1,g2,g3⟩:=g
 have a1:(es.toList.map (·.born)).Nodup:=by
  have e0:es.toList.map (·.born)=(es.toList.map fun e=>(e.key,e.val,e.born)).map fun p=>p.2.2:=by rw [List.map_map]; rfl
  rw [e0,hL];exact h4
 have a0:es.findIdx? (fun e=>((e.born:Nat):Int) == ((n:Nat):Int))=some A.length:=by
  rw [WideElems.findIdx_arr,← g3];exact WideElems.findIdx_born a1 U
 have I:((es.modify A.length (fun e=>{ e with val:=v })).toList.map fun e=>(e.key,e.val,e.born))=A ++ (k,v,n) :: B:=by
  rw [Array.toList_modify,modify_eq_set _ _ _ _ U,List.map_set,hL,g1,g3];simp
 refine ⟨setBlock w b (.map (es.modify A.length fun e=>{ e with val:=v }) c),?_,⟨⟨_,heap_setBlock_same hb _,I⟩,?_,?_,?_,?_⟩,jF hb _⟩
 ·simp [Instr.entryStore,MapKept.run_getObj_map hb,asInt,asIntOf,goInt,a0,MapKept.run_setObj_map _ hb,Result.andThen,setBlock]
 ·intro p y
  rcases μ.1 y with y | y
  ·exact h2 p (by simp [y])
  ·rcases List.mem_cons.1 y with rfl | y
   ·exact h2 (k,u,n) (by simp)
   ·exact h2 p (by simp [y])
 ·have:=List.pairwise_append.1 h3
  have h9:=List.pairwise_cons.1 this.2.1;refine List.pairwise_append.2 ⟨this.1,List.pairwise_cons.2 ⟨fun q hq=>h9.1 q hq,h9.2⟩,fun p y q hq=>?_⟩
  rcases List.mem_cons.1 hq with rfl | hq
  ·exact this.2.2 p y (k,u,n) (by simp)
  ·exact this.2.2 p y q (by simp [hq])
 ·simpa using h4
 ·intro p y
  rcases μ.1 y with y | y
  ·exact h5 p (by simp [y])
  ·rcases List.mem_cons.1 y with rfl | y
   ·exact h5 (k,u,n) (by simp)
   ·exact h5 p (by simp [y])
section
variable {ops:Array Oper} {rest:List Oper} {o:Oper} {a:Act} {Q:Exit→Act→World→Prop}
end
end
end
end Go.Proofs.YtkjinanbccloeaaGreatDoor
