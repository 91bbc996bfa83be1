/- Of the proof of FnDeltaBoth: Draw2F, Fs2, MergeS, MapT, MapR, SortI, QryQ, BdP, DoP, gY, FsC. -/
import Derived.Test.YtkjinanbccloeaaGreatDoorC11
import Derived.Test.YtkjinanbccloeaaGreatDoorC13
set_option linter.unusedVariables false
set_option maxHeartbeats 1000000
namespace Go.Proofs.YtkjinanbccloeaaGreatDoor
section
open Go.RowKit D
attribute [local go_sem ↓] Go.wp_at_zero Go.wp_at_succ
theorem CP (g p:Nat) (w:World) (h:kP g p w) (hp:p≤800000):
  Calls Tryz.prog 160 #[.pointer (some ⟨g,0,none⟩)] w (La 3 g p 7 w):=by
 have hA:Below w.heap.size w (w.alloc (.cells #[.string ⟨#[]⟩,.slice none 0 0] 33)):=ζ;have ho:=rV g p [⟨#[101]⟩,⟨#[101]⟩,⟨#[101]⟩,⟨#[112]⟩,⟨#[112]⟩,⟨#[113]⟩,⟨#[122]⟩,⟨#[104]⟩] 8 (w.alloc (.cells #[.string ⟨#[]⟩,.slice none 0 0] 33)) (h.below hA) (by omega) rfl (by decide) (by decide) (by decide);rw [World.size_alloc] at ho;have hg:=h.lt;have y:=η (ω w (.cells #[.string ⟨#[]⟩,.slice none 0 0] 33));have a1:=η hp;clear h hp
 go_enter Tryz.func160,Tryz.ntmps160
 go_wp2_with fail
 refine ho.mono ?_;rintro e w1 ⟨s,rfl,hs,hR,hK⟩;replace y:=η (hK.blk y.out (by simp; omega));have HK:=η ((aI.of_below hA (bs:=[g])).trans hK);have J:=Lh s false g (p+1) w1 hR (by have:=a1.out; omega) hs;clear ho hK hR hA
 go_wp2_with fail
 refine J.mono ?_;rintro e w2 ⟨a,v,L,p',rfl,U,hx,hC,a0,a2,I⟩;replace y:=η (I.blk y.out (by simp; omega));have z0:=ai (o:=0) y.out;have z1:=ai (o:=1) y.out;have f0:=ax (o:=0) y.out;have f1:=ax (o:=1) y.out;simp only [List.getElem?_toArray,List.getElem?_cons_zero,List.getElem?_cons_succ] at z0 z1;obtain ⟨Av,cv,rfl⟩:=dZ hC.own;have HD:=η (LM (k:=3) (p0:=p) (q:=7) y.out ν hC HK.out.size a0 (HK.out.trans I) hg U hx (by omega));clear J hC a0 I U hx a2 hs;go_wp2;refine bodyPost_ret (v:=.agg #[.string a.name,.slice Av a.args.length cv]) (by simp [results,Tryz.results160,go_sem,z0,z1]) rfl HD.out
theorem JA (c d:Ch) (c0 c1 d0 d1:Value) (b1 b2:List Nat) (w:World) (h:dY w [c0,c1] c b1) (h2:dY w [d0,d1] d b2):
  Calls Tryz.prog 31 #[.agg #[c0,c1],.agg #[d0,d1]] w (Ur (c.comes=d.comes∧c.goes=d.goes) w):=by
 obtain ⟨Ad,cap,Ae,y,rfl,rfl⟩:=fU h;obtain ⟨Af,U,Ag,I,rfl,rfl⟩:=fU h2;obtain ⟨p1,p2,rfl,ht,hp⟩:=fZ h;obtain ⟨p3,p4,rfl,a0,a1⟩:=fZ h2;have hA:Below w.heap.size w ((w.alloc (.cells #[.slice Ad c.comes.length cap,.slice Ae c.goes.length y] 54)).alloc (.cells #[.slice Af d.comes.length U,.slice Ag d.goes.length I] 54)):=(ζ).alloc (by simp) _;have q1:=xH c.comes d.comes _ _ p1 p3 _ (ak.below ht hA) (ak.below a0 hA);have q2:=fun w' (hb:Below w.heap.size w w')=>xH c.goes d.goes _ _ p2 p4 w' (ak.below hp hb) (ak.below a1 hb)
 clear h h2 ht hp a0 a1
 go_enter Tryz.func31,Tryz.ntmps31
 go_wp2_with fail
 refine q1.mono ?_;rintro e w1 ⟨r,rfl,hr,J⟩;have HR:=η hr;have B1:=hA.trans (J.mono hA.size);have x1:w1.cell? ⟨w.heap.size,1,none⟩=some (.slice Ae c.goes.length y):=ξ J (by go_simp);have y1:w1.cell? ⟨w.heap.size+1,1,none⟩=some (.slice Ag d.goes.length I):=ξ J (by go_simp);clear q1 hr hA;cases r
 ·have HW:Hid (¬ (c.comes=d.comes∧c.goes=d.goes)):=η (fun e=>by have:=HR.out.2 e.1; cases this)
  clear q2;go_wp2;go_ret;exact ⟨false,rfl,by simpa using HW.out,B1⟩
 ·have HE:=η (HR.out.1 rfl)
  go_wp2_with fail
  refine (q2 _ B1).mono ?_;rintro e w2 ⟨r2,rfl,a2,a5⟩;have a3:=η a2;have a4:=η (B1.trans (a5.mono B1.size));clear a2 q2;cases r2
  ·have HW:Hid (¬ (c.comes=d.comes∧c.goes=d.goes)):=η (fun e=>by have:=a3.out.2 e.2; cases this)
   go_wp2;go_ret;exact ⟨false,rfl,by simpa using HW.out,a4.out⟩
  ·have HW:Hid (c.comes=d.comes∧c.goes=d.goes):=η ⟨HE.out,a3.out.1 rfl⟩
   go_wp2;go_ret;exact ⟨true,rfl,by simpa using HW.out,a4.out⟩
end
section
open Go.RowKit D Go.Shelf
attribute [local go_sem ↓] Go.wp_at_zero Go.wp_at_succ
theorem uO (n:Nat) (hn:1≤n) (I U:Nat) (xs ys:List A) (v1 v2:Value) (bs1 bs2:List Nat) (wd w0:World) (h1:ay wd [v1] xs bs1) (h2:ay wd [v2] ys bs2)
  (Kp:World→World→Prop) (a0:∀ W W',Kp W W'→MInv I U v1 v2 wd W→MInv I U v1 v2 wd W') (h0:MInv I U v1 v2 wd w0):
  SeqStopsK Fence.wide n Tryz.prog 197 #[.pointer (some ⟨I,0,none⟩),.pointer (some ⟨U,0,none⟩)] (fun x:pV wd=>x.enc) Kp
   (fun y=>y.map pV.key=cZ xs ys) (fun y=>∃ rest,y.map pV.key ++ rest=cZ xs ys) (cZ xs ys).length w0:=fun l J Jx W hW hJ _ hY a1=>by
 refine (Rt n hn l I U xs ys v1 v2 bs1 bs2 wd h1 h2 Kp a0 J Jx W (h0.below hW) hJ hY a1).mono ?_;rintro e W' ⟨he,⟨y,h,hj⟩ | ⟨y,rest,h,hj⟩⟩
 ·exact ⟨he,.inl ⟨y,h,hj⟩⟩
 ·exact ⟨he,.inr ⟨y,⟨rest,h⟩,hj⟩⟩
theorem merge_any (y I:Option Addr) (J c1 U c2:Nat) (w:World):
  Calls Tryz.prog 143 #[.agg #[.slice y J c1,.func (.func 64) #[] #[]],.agg #[.slice I U c2,.func (.func 64) #[] #[]]] w fun e w'=>
   e=.returned (.func (.func 197) #[] #[.pointer (some ⟨w.heap.size,0,none⟩),.pointer (some ⟨w.heap.size+1,0,none⟩)])∧
   w'=(w.alloc (.cells #[.slice y J c1,.func (.func 64) #[] #[]] 112)).alloc (.cells #[.slice I U c2,.func (.func 64) #[] #[]] 112):=by
 go_enter Tryz.func143,Tryz.ntmps143
 go_wp2;go_ret;exact ⟨rfl,rfl⟩
end
section
open Go.RowKit Go.ChangeMaps Go.MapKept D
def D.Iw (b:Nat) (w:World):Prop:=∃ es y,w.heap[b]? = some (.map es y)∧(∀ x ∈ es.toList,x.born < y)∧(es.toList.map (·.born)).Nodup
theorem D.Iw.push {b J:Nat} {es:Array MapEntry} {w:World} (hb:w.heap[b]? = some (.map es J)) (k v:Value) (h:Iw b w):Iw b (setBlock w b (.map (es.push ⟨k,v,J⟩) (J+1))):=by
 obtain ⟨a0,a1,h1,U,h3⟩:=h;rw [hb] at h1;cases h1;refine ⟨_,_,heap_setBlock_same hb _,fun x I=>?_,?_⟩
 ·rw [Array.toList_push] at I
  rcases μ.1 I with I | I
  ·exact Nat.lt_succ_of_lt (U x I)
  ·rw [ώ.1 I]; exact Nat.lt_succ_self _
 ·rw [Array.toList_push,List.map_append]
  refine List.nodup_append.2 ⟨h3,by simp,fun x I y hy e=>?_⟩;obtain ⟨z,hz,rfl⟩:=List.mem_map.1 I;simp at hy;have:=U z hz;omega
theorem yY {P:Program} {kt:TypeId} {W:World→Prop} {S:Value→Prop} (hK:KI P kt W S) {w:World} (hW:W w) {t e:TypeId} (ht:P.underlying t=some (.map kt e)) {b:Nat} {L:List (Value × Value)} {k:Value} (v:Value) (h:oH S b L w) (I:S k) (hk:∀ p ∈ L,p.1 ≠ k):
  ∃ w',(Instr.mapUpdate t (.map (some b)) k v).run P w=.ok () w'∧oH S b (L ++ [(k,v)]) w'∧w.grownBy w' (some b)∧(Iw b w→Iw b w'):=by
 obtain ⟨⟨es,ck,hb,rfl⟩,h2,h3⟩:=h;have J:∀ e ∈ es.toList,S e.key:=fun e he=>h2 (e.key,e.val) (List.mem_map.2 ⟨e,he,rfl⟩)
 rcases ni hK hW I es.toList J with ⟨h5,h6⟩ | ⟨i,U,h5,h6,h7⟩
 ·refine ⟨setBlock w b (.map (es.push ⟨k,v,ck⟩) (ck+1)),?_,⟨⟨_,_,heap_setBlock_same hb _,by simp⟩,?_,?_⟩,lZ hb _,Iw.push hb k v⟩
  ·simp [Instr.mapUpdate,run_underlying ht,MapKept.run_getObj_map hb,hK.check w false I,h5,MapKept.run_setObj_map _ hb,Result.andThen,setBlock]
  ·intro p y
   rcases μ.1 y with y | y
   ·exact h2 p y
   ·rw [ώ.1 y]
    exact I
  ·refine List.pairwise_append.2 ⟨h3,List.pairwise_singleton _ _,fun p y q hq=>?_⟩
   rw [ώ.1 hq];exact hk p y
 ·exact absurd h7 (hk (U.key,U.val) (List.mem_map.2 ⟨U,List.mem_of_getElem? h6,rfl⟩))
end
section
open Go.RowKit Go.Maps D
theorem D.iQ.MJ {b n:Nat} {L:List ByteArray} {f:ByteArray→Int} {w:World} (h:iQ b n L f w) {s:ByteArray} (J:s.size≤maxLen) {v:Int} (hv:(if s ∈ L then f s else 0)=v):
  (Instr.lookup 116 (.map (some b)) (.string s) false).run Tryz.prog w=.ok (.int .i64 v) w:=by
 obtain ⟨⟨M,h1,h2,U,h4⟩,h5,h6⟩:=h;obtain ⟨d,y,I,hw⟩:=h1.lookup_int OZ Tryz.underlying116 Tryz.underlying3 (UU w) (vS J);rw [y]
 have:d=v:=by
  rw [← hv]
  split
  ·rename_i hmem
   have:=h4 s hmem;rw [this] at I;exact AB I.symm
  ·rename_i hmem
   have h7:has M (DN s)=false:=by rw [U s]; simpa using hmem
   rw [atKey_of_not_has h7] at I;exact AB I.symm
 rw [this]
end
section
open Go.RowKit Go.Sort D
theorem JB (xs:List ByteArray) (v:Value) (L:List Value) (base:Nat) (w:World) (hC:bK 1 kG base 9 w v L xs []) (hl:xs.length≤16777216):
  Calls Tryz.prog 226 #[v] w fun e w'=>∃ (v2:Value) (ys:List ByteArray),e=.returned v2∧ys.map (·.data.toList)=Lib.compact (xs.map (·.data.toList))∧bK 1 kG base 9 w' v2 (ys.map Value.string) ys []∧w.grownBy w' v.ownBlock:=by
 obtain ⟨rfl,hs,_⟩:=Ii hC;have I:=hC.own
 rcases I.2 with ⟨rfl,hx⟩ | ⟨g,cap,a4,rfl,a1,hb,h1,h2,h3,h4⟩
 ·have a2:xs = []:=by simpa using hx
  subst a2;refine (Tryz.slices_Compact_string_empty none 0 w).mono ?_;rintro e w' ⟨rfl,rfl⟩;exact ⟨_,[],rfl,by simp [Lib.compact,Lib.compactUpTo],bK.nil _,World.grownBy.refl _ _⟩
 ·have J:(xs.map (·.data.toList)).length=xs.length:=by simp
  have hH:Holds encStr w g 0 (xs.map (·.data.toList)).toArray:=holds_of_block hb (by rw [J,Lib.map_encStr]; simpa using h4);have c:=Tryz.slices_Compact_string g 0 cap (xs.map (·.data.toList)) w hH (by omega) (by omega);rw [J] at c;refine c.mono ?_;rintro e w' ⟨rfl,q,rfl⟩;obtain ⟨zs,U⟩:∃ zs,Lib.compact (xs.map (·.data.toList))=zs:=⟨_,rfl⟩;have a3:zs.length≤xs.length:=by rw [← U,← J]; exact OT _
  rw [U];have y:=Lib.ownsRow_putRow (enc:=encStr) (zs:=xs.map (·.data.toList)) (ys:=zs ++ List.replicate (xs.length - zs.length) []) (q:=q) (k:=zs.length) (by rw [Lib.map_encStr]; exact I) (by simp; omega) a3;rw [List.take_append_of_le_length ν,ϕ ν] at y;have a0:(EQ zs).length=zs.length:=by unfold EQ; rw [List.length_map]
  rw [← LX,← a0] at y;refine ⟨_,EQ zs,rfl,ER _,?_,?_⟩
  ·rw [← a0]
   exact yM y (Ij fun b hb=>ES hs b ((BX _ _).1 (by rw [U]; exact hb)))
  ·have:=grownBy_sorted (w:=w) (g:=g) (n:=q) (os:=#[]) (zs ++ List.replicate (xs.length - zs.length) []).toArray
   rw [grow_empty] at this;exact this
end
section
open Go.RowKit D
theorem D.U2 {w w':World} {base e size n:Nat} {v:Value} {L:List Value} (h:w.ownsRow base e size v n L) (I:∀ b,v.ownBlock=some b→w'.heap[b]? = w.heap[b]?):w'.ownsRow base e size v n L:=by
 refine ⟨h.1,?_⟩
 rcases h.2 with J | ⟨g,cap,y,rfl,U,h4,h5⟩
 ·exact .inl J
 ·exact .inr ⟨g,cap,y,rfl,U,(I g (by simp [Value.ownBlock])).trans h4,h5⟩
theorem D.bZ {w:World} {base e size n b:Nat} {v:Value} {L:List Value} (h:w.ownsRow base e size v n L) (hb:v.ownBlock=some b):base≤b∧b < w.heap.size:=by
 rcases h.2 with ⟨rfl,_⟩ | ⟨g,cap,y,rfl,I,J,_⟩
 ·simp [Value.ownBlock] at hb
 ·simp [Value.ownBlock] at hb
  subst hb;exact ⟨I,ψ J⟩
theorem D.bK.nV {α:Type} {n:Nat} {R:Rel α} {base e:Nat} {w w':World} {v:Value} {L:List Value} {xs:List α} {bs:List Nat} (g:Good R) (h:bK n R base e w v L xs bs)
  (h1:∀ b,v.ownBlock=some b→w'.heap[b]? = w.heap[b]?) (y:∀ b ∈ bs,w'.heap[b]? = w.heap[b]?):bK n R base e w' v L xs bs:=
 ⟨U2 h.own h1,h.row.keep g y,h.far⟩
theorem D.RI (ps:List Pt) (k:Nat) (h:k < ps.length):iG (ps.take (k+1))=iG (ps.take k) ++ (if ps[k].no then [] else [ps[k].atom]):=by
 unfold iG;rw [ρ h,List.filter_append,List.map_append]
 cases hn:ps[k].no <;> simp [hn]
theorem D.RJ (ps:List Pt) (k:Nat) (h:k < ps.length):eY (ps.take (k+1))=eY (ps.take k) ++ (if ps[k].no then [ps[k].atom] else []):=by
 unfold eY;rw [ρ h,List.filter_append,List.map_append]
 cases hn:ps[k].no <;> simp [hn]
structure D.wF (vars:List ByteArray) (w:World) (hz hb B:Nat) (vv:Value) (b3:List Nat) (v1:Value) (L1:List Value) (xs1:List A) (bs1:List Nat) (v2:Value) (L2:List Value) (xs2:List A) (bs2:List Nat) (wr:World):Prop where
 r0:wr.heap[hz]? = some (.cells #[.slice none 0 0,.slice none 0 0,.slice none 0 0] 164 (0,0))
 r1:wr.heap[hb]? = some (.cells #[v1,v2,vv] 164 (0,0))
 h0:w.heap.size≤hz
 h1:hz < hb
 hB:hb < B
 c1:bK 2 (Gp vars) B 168 wr v1 L1 xs1 bs1
 c2:bK 2 (Gp vars) B 168 wr v2 L2 xs2 bs2
 k1:∀ b ∈ bs1,B≤b
 k2:∀ b ∈ bs2,B≤b
 f12:∀ b,v1.ownBlock=some b→v2.ownBlock ≠ some b∧b ∉ bs2
 f21:∀ b,v2.ownBlock=some b→b ∉ bs1
 vs:jP wr [vv] vars b3
 kv:∀ b ∈ b3,w.heap.size≤b∧b < hb∧b ≠ hz
 bel:Below w.heap.size w wr
 qH:B≤wr.heap.size
section
variable {vars:List ByteArray} {w:World} {hz hb B:Nat} {vv:Value} {b3:List Nat} {v1:Value} {L1:List Value} {xs1:List A} {bs1:List Nat} {v2:Value} {L2:List Value} {xs2:List A} {bs2:List Nat} {wr:World}
theorem D.wF.later {w' : World} (h : wF vars w hz hb B vv b3 v1 L1 xs1 bs1 v2 L2 xs2 bs2 wr) (y : Below wr.heap.size wr w') : wF vars w hz hb B vv b3 v1 L1 xs1 bs1 v2 L2 xs2 bs2 w' :=
  ⟨(y.block _ (lt_of_block h.r0)).trans h.r0, (y.block _ (lt_of_block h.r1)).trans h.r1, h.h0, h.h1, h.hB, h.c1.below (iU _) y, h.c2.below (iU _) y, h.k1, h.k2, h.f12, h.f21, dA.below h.vs y, h.kv,
    h.bel.trans (y.mono h.bel.size), Nat.le_trans h.qH y.size⟩
theorem D.wF.lit {a:A} {y:Value} {b9:List Nat} {w2:World} {v:Value} {L:List Value} {n:Nat} (U:Below wr.heap.size wr w2) (hB:B≤wr.heap.size) (I:wr.ownsRow B 168 2 v n L) (a0:a.name.size≤maxLen) (hp:kV vars w2 [y] a.args b9) (h9:Value.oneCell' y=true):
  (w2.alloc (.cells #[.string a.name,y] 168)).ownsRow B 168 2 v n L∧
   Lies (w2.alloc (.cells #[.string a.name,y] 168)) (some ⟨w2.heap.size,0,none⟩) [.string a.name,y]∧(∀ u ∈ [.string a.name,y],Value.oneCell' u=true)∧B≤(w2.alloc (.cells #[.string a.name,y] 168)).heap.size:=by
 have hA:Below w2.heap.size w2 (w2.alloc (.cells #[.string a.name,y] 168)):=ζ;have hb:=U.trans (hA.mono U.size);refine ⟨own_below I hb,by have:=aV (ω w2 (.cells #[.string a.name,y] 168)); simpa using this,fun u J=>?_,τ hB hb.size⟩
 rcases ύ.1 J with rfl | J
 ·rfl
 ·rw [ώ.1 J]; exact h9
theorem D.wF.app1 {a:A} {U:Value} {b9:List Nat} {w2 w5:World} {A5:Option Addr} {c5:Nat} (h:wF vars w hz hb B vv b3 v1 L1 xs1 bs1 v2 L2 xs2 bs2 wr) (hk:Below wr.heap.size wr w2) (a7:a.name.size≤maxLen) (hp:kV vars w2 [U] a.args b9) (hn:New wr.heap.size w2 b9) (h9:Value.oneCell' U=true)
  (a5:w5.ownsRow B 168 2 (.slice A5 (xs1.length+1) c5) (xs1.length+1) (L1 ++ [.string a.name,U])) (hg:(w2.alloc (.cells #[.string a.name,U] 168)).grownBy w5 v1.ownBlock)
  (a2:(Value.slice A5 (xs1.length+1) c5).ownBlock=v1.ownBlock∨(Value.slice A5 (xs1.length+1) c5).ownBlock=some (w2.alloc (.cells #[.string a.name,U] 168)).heap.size):
  w5.cell? ⟨hb,0,none⟩=some v1∧w5.cell? ⟨hb,1,none⟩=some v2∧w5.cell? ⟨hb,2,none⟩=some vv∧w5.frozen? ⟨hb,0,none⟩=false∧
   wF vars w hz hb B vv b3 (.slice A5 (xs1.length+1) c5) (L1 ++ [.string a.name,U]) (xs1 ++ [a]) (bs1 ++ b9) v2 L2 xs2 bs2 (w5.setCell ⟨hb,0,none⟩ (.slice A5 (xs1.length+1) c5)):=by
 have hA:Below w2.heap.size w2 (w2.alloc (.cells #[.string a.name,U] 168)):=ζ;have a8:=hk.trans (hA.mono hk.size);have h2:=h.later a8;have ag:=h2.qH;have am:=hk.size;have a9:=h.hB;have aa:=h.h1;have ab:=h.h0;have ao:=h.qH;have g9:∀ b ∈ b9,wr.heap.size≤b∧b < w2.heap.size:=fun b hb=>⟨(hn.own b hb).1,hn.lt hb⟩
 have a0:∀ b,b < w2.heap.size+1→v1.ownBlock ≠ some b→w5.heap[b]? = (w2.alloc (.cells #[.string a.name,U] 168)).heap[b]?:=fun b hb a4=>hg.block b (by simpa using hb) (fun e=>a4 e.symm)
 have o1:∀ b,v1.ownBlock=some b→B≤b∧b < wr.heap.size:=fun b hb=>bZ h.c1.own hb
 have o2:∀ b,v2.ownBlock=some b→B≤b∧b < wr.heap.size:=fun b hb=>bZ h.c2.own hb
 have l1:∀ b ∈ bs1,b < wr.heap.size:=fun b hb=>h.c1.row.lt (iU _) b hb
 have l2:∀ b ∈ bs2,b < wr.heap.size:=fun b hb=>h.c2.row.lt (iU _) b hb
 have n1:v1.ownBlock ≠ some hb:=fun e=>by have:=(o1 _ e).1; omega
 have n0:v1.ownBlock ≠ some hz:=fun e=>by have:=(o1 _ e).1; omega
 have a1:=(a0 hb (by omega) n1).trans h2.r1;have ac:=(a0 hz (by omega) n0).trans h2.r0;have ae:Gp vars (w2.alloc (.cells #[.string a.name,U] 168)) [.string a.name,U] a b9:=⟨U,rfl,a7,(dK _).below hp hA⟩
 have af:bK 2 (Gp vars) B 168 w5 (.slice A5 (xs1.length+1) c5) (L1 ++ [.string a.name,U]) (xs1 ++ [a]) (bs1 ++ b9):=
  h2.c1.app (iU _) (aW.dP (Iq _) ae) (fun b hb e=>by have:=(o1 _ e).2; have:=(g9 b hb).1; omega) a5 hg a2
 have J:∀ b,b ≠ hb→(w5.setCell ⟨hb,0,none⟩ (.slice A5 (xs1.length+1) c5)).heap[b]? = w5.heap[b]?:=fun b a4=>π _ _ _ _ a4
 have a3:∀ b,(Value.slice A5 (xs1.length+1) c5).ownBlock=some b→v1.ownBlock=some b∨b=w2.heap.size+1:=fun b e=>by
  rcases a2 with I | I
  ·left; rw [← I]; exact e
  ·right; rw [I] at e; simp at e; omega
 refine ⟨ai a1,ai a1,ai a1,ax a1,⟨(J _ (by omega)).trans ac,?_,ab,aa,a9,?_,?_,?_,h.k2,?_,?_,?_,h.kv,?_,?_⟩⟩
 ·have:=dw (o:=0) (u:=.slice A5 (xs1.length+1) c5) a1
  simpa using this
 ·exact af.nV (iU _) (fun b e=>J b (fun e2=>by
   subst e2
   rcases a3 _ e with I | I
   ·exact n1 I
   ·omega)) (fun b y=>J b (fun e2=>by
   subst e2
   rcases μ.1 y with I | I
   ·have:=h.k1 _ I; omega
   ·have:=(g9 _ I).1; omega))
 ·refine (h2.c2.nV (iU _) (fun b e=>?_) (fun b y=>?_))
  ·have:=o2 _ e
   rw [J b (by omega)];exact a0 b (by omega) (fun e2=>(h.f12 b e2).1 e)
  ·have:=l2 _ y
   have:=h.k2 _ y;rw [J b (by omega)];exact a0 b (by omega) (fun e2=>(h.f12 b e2).2 y)
 ·intro b y
  rcases μ.1 y with I | I
  ·exact h.k1 _ I
  ·have:=(g9 _ I).1; omega
 ·intro b e
  rcases a3 _ e with I | I
  ·exact h.f12 b I
  ·exact ⟨fun e2=>by have:=(o2 _ e2).2; omega,fun e2=>by have:=l2 _ e2; omega⟩
 ·intro b e y
  rcases μ.1 y with I | I
  ·exact h.f21 b e I
  ·have:=(o2 _ e).2; have:=(g9 _ I).1; omega
 ·refine dA.keep h2.vs fun b y=>?_
  have:=h.kv b y;rw [J b (by omega)];exact a0 b (by omega) (fun e=>by have:=(o1 _ e).1; omega)
 ·have a6:Below w.heap.size w w5:=h2.bel.grown hg h2.bel.size fun k e=>by have:=(o1 _ e).1; omega
  exact a6.setCell (by show w.heap.size≤hb; omega) _
 ·have:=hg.size; simp [World.setCell]; simp at this; omega
theorem D.wF.YT {a:A} {U:Value} {b9:List Nat} {w2 w5:World} {A5:Option Addr} {c5:Nat} (h:wF vars w hz hb B vv b3 v1 L1 xs1 bs1 v2 L2 xs2 bs2 wr) (hk:Below wr.heap.size wr w2) (a7:a.name.size≤maxLen) (hp:kV vars w2 [U] a.args b9) (hn:New wr.heap.size w2 b9) (h9:Value.oneCell' U=true)
  (a5:w5.ownsRow B 168 2 (.slice A5 (xs2.length+1) c5) (xs2.length+1) (L2 ++ [.string a.name,U])) (hg:(w2.alloc (.cells #[.string a.name,U] 168)).grownBy w5 v2.ownBlock)
  (a3:(Value.slice A5 (xs2.length+1) c5).ownBlock=v2.ownBlock∨(Value.slice A5 (xs2.length+1) c5).ownBlock=some (w2.alloc (.cells #[.string a.name,U] 168)).heap.size):
  w5.cell? ⟨hb,0,none⟩=some v1∧w5.cell? ⟨hb,1,none⟩=some v2∧w5.cell? ⟨hb,2,none⟩=some vv∧w5.frozen? ⟨hb,1,none⟩=false∧
   wF vars w hz hb B vv b3 v1 L1 xs1 bs1 (.slice A5 (xs2.length+1) c5) (L2 ++ [.string a.name,U]) (xs2 ++ [a]) (bs2 ++ b9) (w5.setCell ⟨hb,1,none⟩ (.slice A5 (xs2.length+1) c5)):=by
 have hA:Below w2.heap.size w2 (w2.alloc (.cells #[.string a.name,U] 168)):=ζ;have a8:=hk.trans (hA.mono hk.size);have h2:=h.later a8;have ag:=h2.qH;have am:=hk.size;have a9:=h.hB;have aa:=h.h1;have ab:=h.h0;have ao:=h.qH;have g9:∀ b ∈ b9,wr.heap.size≤b∧b < w2.heap.size:=fun b hb=>⟨(hn.own b hb).1,hn.lt hb⟩
 have a0:∀ b,b < w2.heap.size+1→v2.ownBlock ≠ some b→w5.heap[b]? = (w2.alloc (.cells #[.string a.name,U] 168)).heap[b]?:=fun b hb a4=>hg.block b (by simpa using hb) (fun e=>a4 e.symm)
 have o1:∀ b,v1.ownBlock=some b→B≤b∧b < wr.heap.size:=fun b hb=>bZ h.c1.own hb
 have o2:∀ b,v2.ownBlock=some b→B≤b∧b < wr.heap.size:=fun b hb=>bZ h.c2.own hb
 have l1:∀ b ∈ bs1,b < wr.heap.size:=fun b hb=>h.c1.row.lt (iU _) b hb
 have l2:∀ b ∈ bs2,b < wr.heap.size:=fun b hb=>h.c2.row.lt (iU _) b hb
 have n1:v2.ownBlock ≠ some hb:=fun e=>by have:=(o2 _ e).1; omega
 have n0:v2.ownBlock ≠ some hz:=fun e=>by have:=(o2 _ e).1; omega
 have a1:=(a0 hb (by omega) n1).trans h2.r1;have ac:=(a0 hz (by omega) n0).trans h2.r0;have ae:Gp vars (w2.alloc (.cells #[.string a.name,U] 168)) [.string a.name,U] a b9:=⟨U,rfl,a7,(dK _).below hp hA⟩
 have af:bK 2 (Gp vars) B 168 w5 (.slice A5 (xs2.length+1) c5) (L2 ++ [.string a.name,U]) (xs2 ++ [a]) (bs2 ++ b9):=
  h2.c2.app (iU _) (aW.dP (Iq _) ae) (fun b hb e=>by have:=(o2 _ e).2; have:=(g9 b hb).1; omega) a5 hg a3
 have J:∀ b,b ≠ hb→(w5.setCell ⟨hb,1,none⟩ (.slice A5 (xs2.length+1) c5)).heap[b]? = w5.heap[b]?:=fun b a4=>π _ _ _ _ a4
 have a2:∀ b,(Value.slice A5 (xs2.length+1) c5).ownBlock=some b→v2.ownBlock=some b∨b=w2.heap.size+1:=fun b e=>by
  rcases a3 with I | I
  ·left; rw [← I]; exact e
  ·right; rw [I] at e; simp at e; omega
 refine ⟨ai a1,ai a1,ai a1,ax a1,⟨(J _ (by omega)).trans ac,?_,ab,aa,a9,?_,?_,h.k1,?_,?_,?_,?_,h.kv,?_,?_⟩⟩
 ·have:=dw (o:=1) (u:=.slice A5 (xs2.length+1) c5) a1
  simpa using this
 ·refine (h2.c1.nV (iU _) (fun b e=>?_) (fun b y=>?_))
  ·have:=o1 _ e
   rw [J b (by omega)];exact a0 b (by omega) (fun e2=>(h.f12 b e).1 e2)
  ·have:=l1 _ y
   have:=h.k1 _ y;rw [J b (by omega)];exact a0 b (by omega) (fun e2=>h.f21 b e2 y)
 ·exact af.nV (iU _) (fun b e=>J b (fun e2=>by
   subst e2
   rcases a2 _ e with I | I
   ·exact n1 I
   ·omega)) (fun b y=>J b (fun e2=>by
   subst e2
   rcases μ.1 y with I | I
   ·have:=h.k2 _ I; omega
   ·have:=(g9 _ I).1; omega))
 ·intro b y
  rcases μ.1 y with I | I
  ·exact h.k2 _ I
  ·have:=(g9 _ I).1; omega
 ·intro b e
  refine ⟨fun e2=>?_,fun y=>?_⟩
  ·rcases a2 _ e2 with I | I
   ·exact (h.f12 b e).1 I
   ·have:=(o1 _ e).2; omega
  ·rcases μ.1 y with I | I
   ·exact (h.f12 b e).2 I
   ·have:=(o1 _ e).2; have:=(g9 _ I).1; omega
 ·intro b e y
  rcases a2 _ e with I | I
  ·exact h.f21 b I y
  ·have:=l1 _ y; omega
 ·refine dA.keep h2.vs fun b y=>?_
  have:=h.kv b y;rw [J b (by omega)];exact a0 b (by omega) (fun e=>by have:=(o2 _ e).1; omega)
 ·have a6:Below w.heap.size w w5:=h2.bel.grown hg h2.bel.size fun k e=>by have:=(o2 _ e).1; omega
  exact a6.setCell (by show w.heap.size≤hb; omega) _
 ·have:=hg.size; simp [World.setCell]; simp at this; omega
end
def D.JV (vars:List ByteArray) (b:Bd) (i:Nat):ByteArray:=if h:i < vars.length then jC b vars[i] else ⟨#[]⟩
structure D.iR (vars:List ByteArray) (b:Bd) (blk o:Nat) (w:World):Prop where
 wd:∀ i,i < 12→w.cell? ⟨blk,o+i,none⟩=some (.string (JV vars b i))
 bd:∀ i,i < 12→∃ z:Int,w.cell? ⟨blk,o+12+i,none⟩=some (.int .i64 z)∧∀ h:i < b.length,z=(vars.idxOf b[i].1:Nat)
 ct:w.cell? ⟨blk,o+24,none⟩=some (.int .i64 b.length)
 fz:∀ i,i < 25→w.frozen? ⟨blk,o+i,none⟩=false
structure D.jZ (vars:List ByteArray) (b:Bd):Prop where
 inn:∀ p ∈ b,p.1 ∈ vars
 once:(b.map (·.1)).Nodup
 full:∀ p ∈ b,p.2 ≠ ⟨#[]⟩
 size:∀ p ∈ b,p.2.size≤maxLen
structure D.kC (vars:List ByteArray):Prop where
 few:vars.length≤12
 once:vars.Nodup
theorem D.AO {b:Bd} {n:ByteArray}:gJ b n=none ↔ ∀ p ∈ b,p.1 ≠ n:=by
 induction b with
 | nil=>simp [gJ]
 | cons p b ih=>
  rw [gJ]
  split
  ·rename_i h; simp [h]
  ·rename_i h; simp [h,ih]
theorem D.yZ {b:Bd} {n v:ByteArray} (h:gJ b n=some v):(n,v) ∈ b:=by
 induction b with
 | nil=>simp [gJ] at h
 | cons p b ih=>
  rw [gJ] at h
  split at h
  ·rename_i e
   cases h;subst e;exact Γ
  ·exact Δ _ (ih h)
theorem D.Fz {b:Bd} {n v:ByteArray} (h:gJ b n=none):gJ (b ++ [(n,v)]) n=some v:=by rw [nS,h]; simp [gJ]
theorem D.DT {b:Bd} {n m v:ByteArray} (h:n ≠ m):gJ (b ++ [(n,v)]) m=gJ b m:=by
 rw [nS];simp [gJ,h]
theorem D.jZ.qU {vars:List ByteArray} {b:Bd} (h:jZ vars b) (n:ByteArray):jC b n=⟨#[]⟩ ↔ gJ b n=none:=by
 unfold jC
 cases hg:gJ b n with
 | none=>simp
 | some v=>simp [h.full _ (yZ hg)]
theorem D.jZ.len {vars:List ByteArray} {b:Bd} (h:jZ vars b):b.length≤vars.length:=by
 have:(b.map (·.1)).length≤vars.length:=oP h.once fun x y=>by
  obtain ⟨p,I,rfl⟩:=List.mem_map.1 y;exact h.inn p I
 simpa using this
theorem D.jZ.lt {vars:List ByteArray} {b:Bd} (h:jZ vars b) {n:ByteArray} (hn:n ∈ vars) (U:gJ b n=none):b.length < vars.length:=by
 have y:(n :: b.map (·.1)).Nodup:=List.nodup_cons.2 ⟨fun hm=>by
  obtain ⟨p,I,e⟩:=List.mem_map.1 hm
  exact AO.1 U p I e,h.once⟩
 have:(n :: b.map (·.1)).length≤vars.length:=oP y fun x J=>by
  rcases ύ.1 J with rfl | J
  ·exact hn
  ·obtain ⟨p,I,rfl⟩:=List.mem_map.1 J
   exact h.inn p I
 simp at this;omega
theorem D.jZ.snoc {vars:List ByteArray} {b:Bd} (h:jZ vars b) {n v:ByteArray} (hn:n ∈ vars) (U:gJ b n=none) (hv:v ≠ ⟨#[]⟩) (hs:v.size≤maxLen):jZ vars (b ++ [(n,v)]):=by
 refine ⟨fun p I=>?_,?_,fun p I=>?_,fun p I=>?_⟩
 ·rcases μ.1 I with I | I
  ·exact h.inn p I
  ·rw [ώ.1 I]; exact hn
 ·rw [List.map_append]
  refine List.nodup_append.2 ⟨h.once,by simp,fun x hx y J e=>?_⟩;simp at J;obtain ⟨p,I,rfl⟩:=List.mem_map.1 hx;exact AO.1 U p I (e.trans J)
 ·rcases μ.1 I with I | I
  ·exact h.full p I
  ·rw [ώ.1 I]; exact hv
 ·rcases μ.1 I with I | I
  ·exact h.size p I
  ·rw [ώ.1 I]; exact hs
theorem D.jZ.init {vars:List ByteArray} {b:Bd} {p:ByteArray × ByteArray} (h:jZ vars (b ++ [p])):jZ vars b∧p.1 ∈ vars∧gJ b p.1=none:=by
 have y:=h.once;rw [List.map_append] at y;obtain ⟨I,_,J⟩:=List.nodup_append.1 y;exact ⟨⟨fun q hq=>h.inn q (Ξ _ hq),I,fun q hq=>h.full q (Ξ _ hq),fun q hq=>h.size q (Ξ _ hq)⟩,h.inn p (by simp),AO.2 fun q hq e=>J q.1 (List.mem_map.2 ⟨q,hq,rfl⟩) p.1 (by simp) e⟩
theorem D.jZ.nil (vars:List ByteArray):jZ vars []:=⟨fun p h=>by simp at h,by simp,fun p h=>by simp at h,fun p h=>by simp at h⟩
theorem D.jZ.RN {vars:List ByteArray} {b:Bd} (h:jZ vars b) {t:T} (y:t.var=false→t.name.size≤maxLen):(dU b t).name.size≤maxLen:=by
 unfold dU;cases hv:t.var
 ·simpa using y hv
 ·simp only [if_true,jC]
  cases hg:gJ b t.name with
  | none=>decide
  | some v=>exact h.size _ (yZ hg)
theorem D.MK {vars:List ByteArray} (hv:kC vars) {b:Bd} {n v:ByteArray} (hn:n ∈ vars) (J:gJ b n=none) (i:Nat):
  JV vars (b ++ [(n,v)]) i=if i=vars.idxOf n then v else JV vars b i:=by
 have hl:=List.idxOf_lt_length_of_mem hn;unfold JV;by_cases y:i < vars.length
 ·rw [dif_pos y,dif_pos y]
  split
  ·rename_i e
   subst e;have:vars[vars.idxOf n]=n:=List.getElem_idxOf y;unfold jC;rw [this,Fz J]; rfl
  ·rename_i e
   have I:n ≠ vars[i]:=fun U=>e (by rw [U]; exact (List.Nodup.idxOf_getElem hv.once i y).symm)
   unfold jC;rw [DT I]
 ·rw [dif_neg y,dif_neg y]
  split
  ·omega
  ·rfl
section
variable {vars:List ByteArray} {b:Bd} {blk o:Nat} {w:World}
theorem D.iR.keep {w':World} (h:iR vars b blk o w) (e:w'.heap[blk]? = w.heap[blk]?):iR vars b blk o w':=
 ⟨fun i y=>(World.cell?_of_block e).trans (h.wd i y),fun i y=>by obtain ⟨z,h1,I⟩:=h.bd i y; exact ⟨z,(World.cell?_of_block e).trans h1,I⟩,(World.cell?_of_block e).trans h.ct,fun i y=>(World.frozen?_of_block e).trans (h.fz i y)⟩
theorem D.iR.lt (h:iR vars b blk o w):blk < w.heap.size:=lt_of_cell h.ct
theorem D.kM (w:World) (b o:Nat) (v:Value) {u:Value} (h:w.cell? ⟨b,o,none⟩=some u) (q:Nat):(w.setCell ⟨b,o,none⟩ v).cell? ⟨b,q,none⟩=if q=o then some v else w.cell? ⟨b,q,none⟩:=by
 split
 ·rename_i e; subst e; exact World.cell?_setCell_same _ _ _ h
 ·rename_i e; exact World.cell?_setCell_other _ _ _ _ (fun y=>e (by injection y with _ e3 _; exact e3.symm))
theorem D.iR.bind (hv:kC vars) (h:iR vars b blk o w) (hb:jZ vars b) {n v:ByteArray} (hn:n ∈ vars) (hg:gJ b n=none):
  iR vars (b ++ [(n,v)]) blk o (((w.setCell ⟨blk,o+vars.idxOf n,none⟩ (.string v)).setCell ⟨blk,o+12+b.length,none⟩ (.int .i64 (vars.idxOf n:Nat))).setCell ⟨blk,o+24,none⟩ (.int .i64 ((b ++ [(n,v)]).length:Nat))):=by
 have hl:=hb.lt hn hg;have hf:=hv.few;have hi:=List.idxOf_lt_length_of_mem hn;obtain ⟨z0,U,_⟩:=h.bd b.length (by omega);have c1:=D.kM w blk (o+vars.idxOf n) (.string v) (h.wd _ (by omega));have c2:=D.kM (w.setCell ⟨blk,o+vars.idxOf n,none⟩ (.string v)) blk (o+12+b.length) (.int .i64 (vars.idxOf n:Nat)) (u:=.int .i64 z0) (by rw [c1,if_neg (by omega)]; exact U)
 have c3:=D.kM ((w.setCell ⟨blk,o+vars.idxOf n,none⟩ (.string v)).setCell ⟨blk,o+12+b.length,none⟩ (.int .i64 (vars.idxOf n:Nat))) blk (o+24) (.int .i64 ((b ++ [(n,v)]).length:Nat)) (u:=.int .i64 b.length)
  (by rw [c2,if_neg (by omega),c1,if_neg (by omega)]; exact h.ct)
 refine ⟨fun i y=>?_,fun i y=>?_,?_,fun i y=>?_⟩
 ·rw [c3,if_neg (by omega),c2,if_neg (by omega),c1,MK hv hn hg]
  by_cases e:i=vars.idxOf n
  ·rw [if_pos (by omega),if_pos e]
  ·rw [if_neg (by omega),if_neg e]; exact h.wd i y
 ·rw [c3,if_neg (by omega),c2]
  by_cases e:i=b.length
  ·subst e
   rw [if_pos rfl];exact ⟨_,rfl,fun J=>by simp⟩
  ·rw [if_neg (by omega),c1,if_neg (by omega)]
   obtain ⟨z,h1,h2⟩:=h.bd i y;refine ⟨z,h1,fun J=>?_⟩;have I:i < b.length:=by simp at J; omega
   rw [h2 I,List.getElem_append_left I]
 ·rw [c3,if_pos rfl]
 ·simp only [World.frozen?_setCell]
  exact h.fz i y
theorem D.iR.unbind (hv:kC vars) {n v:ByteArray} (h:iR vars (b ++ [(n,v)]) blk o w) (hb:jZ vars (b ++ [(n,v)])):
  iR vars b blk o ((w.setCell ⟨blk,o+24,none⟩ (.int .i64 (b.length:Nat))).setCell ⟨blk,o+vars.idxOf n,none⟩ (.string ⟨#[]⟩)):=by
 obtain ⟨I,hn,J⟩:=hb.init;have hf:=hv.few;have U:=List.idxOf_lt_length_of_mem hn;dsimp only at hn J U;have c1:=D.kM w blk (o+24) (.int .i64 (b.length:Nat)) h.ct;have c2:=D.kM (w.setCell ⟨blk,o+24,none⟩ (.int .i64 (b.length:Nat))) blk (o+vars.idxOf n) (.string ⟨#[]⟩) (by rw [c1,if_neg (by omega)]; exact h.wd _ (by omega));refine ⟨fun i y=>?_,fun i y=>?_,?_,fun i y=>?_⟩
 ·rw [c2]
  by_cases e:i=vars.idxOf n
  ·rw [if_pos (by omega)]
   subst e;unfold JV;rw [dif_pos U];have:vars[vars.idxOf n]=n:=List.getElem_idxOf U;rw [this,(I.qU n).2 J]
  ·rw [if_neg (by omega),c1,if_neg (by omega),h.wd i y,MK hv hn J,if_neg e]
 ·rw [c2,if_neg (by omega),c1,if_neg (by omega)]
  obtain ⟨z,h1,h2⟩:=h.bd i y;refine ⟨z,h1,fun a0=>?_⟩;rw [h2 (by simp; omega),List.getElem_append_left a0]
 ·rw [c2,if_neg (by omega),c1,if_pos rfl]
 ·simp only [World.frozen?_setCell]
  exact h.fz i y
end
structure D.dN (blk o:Nat) (w w':World):Prop where
 grow:w.grownBy w' (some blk)
 rest:∀ q,(q < o∨o+25≤q)→w'.cell? ⟨blk,q,none⟩=w.cell? ⟨blk,q,none⟩
section
variable {blk o:Nat} {w w' w2:World}
theorem D.dN.refl (blk o:Nat) (w:World):dN blk o w w:=⟨⟨rfl,rfl,rfl,ν,fun _ _ _=>rfl⟩,fun _ _=>rfl⟩
theorem D.dN.trans (h:dN blk o w w') (k:dN blk o w' w2):dN blk o w w2:=
 ⟨⟨k.grow.os.trans h.grow.os,k.grow.tape.trans h.grow.tape,k.grow.output.trans h.grow.output,τ h.grow.size k.grow.size,fun i I y=>(k.grow.block i (κ I h.grow.size) y).trans (h.grow.block i I y)⟩,
  fun q hq=>(k.rest q hq).trans (h.rest q hq)⟩
theorem D.dN.of_below (h:Below w.heap.size w w') (hb:blk < w.heap.size):dN blk o w w':=
 ⟨⟨h.os,h.tape,h.output,h.size,fun i y _=>h.block i y⟩,fun q _=>World.cell?_of_block (h.block _ hb)⟩
theorem D.dN.put (w:World) (i:Nat) (I:i < 25) (v:Value):dN blk o w (w.setCell ⟨blk,o+i,none⟩ v):=
 ⟨⟨rfl,rfl,rfl,by simp [World.setCell],fun k _ y=>π _ _ _ _ (fun e=>y (by rw [e]))⟩,
  fun q hq=>World.cell?_setCell_other _ _ _ _ (fun e=>by injection e with _ e2 _; omega)⟩
theorem D.dN.keep {α:Type} {R:Rel α} (g:Good R) {cs:List Value} {x:α} {bs:List Nat} (h:dN blk o w w') (hr:R w cs x bs) (hb:blk ∉ bs):R w' cs x bs:=
 g.keep hr fun b y=>h.grow.block b (g.lt hr b y) (fun e=>hb (by injection e with e; rw [← e]; exact y))
theorem D.dN.block (h:dN blk o w w') {b:Nat} (hb:b < w.heap.size) (y:b ≠ blk):w'.heap[b]? = w.heap[b]?:=h.grow.block b hb (fun e=>y (by injection e))
end
theorem D.ML {vars:List ByteArray} {b:Bd} (hb:jZ vars b) (t f:T) (I fs:List T) (hc:t.var=false→t.name ≠ ⟨#[]⟩):
  dH (t :: I) (f :: fs) b=if (dU b t).name=⟨#[]⟩ then dH I fs (b ++ [(t.name,f.name)]) else if (dU b t).name=f.name then dH I fs b else (b,false):=by
 obtain ⟨U,y⟩:=t;rw [dH];unfold dU;cases U
 ·simp only [Bool.false_eq_true,if_false]
  rw [if_neg (hc rfl)]
 ·simp only [if_true]
  cases hg:gJ b y with
  | none=>
   have:jC b y=⟨#[]⟩:=(hb.qU y).2 hg;rw [if_pos this]
  | some v=>
   have e:jC b y=v:=by unfold jC; rw [hg]; rfl
   have J:v ≠ ⟨#[]⟩:=hb.full _ (yZ hg);simp only [e];rw [if_neg J]
theorem D.O6 {vars:List ByteArray} {b:Bd} (hb:jZ vars b) {t:T} (hc:t.var=false→t.name ≠ ⟨#[]⟩) (h:(dU b t).name=⟨#[]⟩):t.var=true∧gJ b t.name=none:=by
 unfold dU at h;cases hv:t.var
 ·simp [hv] at h; exact absurd h (hc hv)
 ·simp [hv] at h; exact ⟨rfl,(hb.qU _).1 h⟩
def D.behind (xs:List A) (c:Ch):List A:=gZ (bP xs c.goes) c.comes
def D.wO (xs:List A) (c:Ch):List A:=if (aN xs && bD c)=true then (if (behind xs c).length≤300 then behind xs c else []) else []
theorem D.RP (L ys:List A) (k:Nat) (h:k < ys.length):gZ L (ys.take (k+1))=fD (gZ L (ys.take k)) ys[k]:=by
 unfold gZ; rw [ρ h,List.foldl_append]; rfl
theorem D.aX {c:Ch} (h:bD c=true):aN c.comes=true∧aN c.goes=true:=by
 unfold bD at h; simp only [ο] at h; exact ⟨h.1.1,h.1.2⟩
theorem D.sD {xs:List A} (c:Ch) (h:gB xs=true):gB (behind xs c)=true:=uh (ug h)
theorem D.FB {xs:List A} {c:Ch} {x:A} (h:x ∈ behind xs c):x ∈ xs∨x ∈ c.comes:=(uj h).imp pq id
theorem D.xQ (xs:List A) (c:Ch):(behind xs c).length≤xs.length+c.comes.length:=by
 have h1:=nK c.comes (bP xs c.goes);have y:(bP xs c.goes).length≤xs.length:=List.length_filter_le _ _;unfold behind; omega
theorem D.oK {xs:List A} {c:Ch} (h:aN xs=true) (hc:bD c=true):∀ x ∈ behind xs c,dM x=true:=fun x y=>
 (FB y).elim (fC h x) (fC (aX hc).1 x)
theorem D.RQ {xs:List A} {c:Ch} (h:aN xs=true) (hc:bD c=true):aN (behind xs c)=decide ((behind xs c).length≤300):=by
 rw [oZ]
 have:okB (behind xs c)=true:=by
  unfold okB; rw [ο]
  exact ⟨ό.2 (oK h hc),sD c (bJ h)⟩
 rw [this,Bool.true_and]
theorem D.y8 {xs:List A} {c:Ch} (h:aN xs=true) (hc:bD c=true):dI (fH xs c.goes) c.comes=behind xs c:=by
 rw [mZ (bJ h) (bJ (aX hc).2)];exact Oo (ug (bJ h)) (bJ (aX hc).1) (fun x y=>fC h x (pq y)) (fC (aX hc).1)
theorem D.FC {xs:List A} {c:Ch} (h:Fa xs) (hc:Fa c.comes):(behind xs c).length≤2000000∧∀ x ∈ behind xs c,x.args.length≤16777216:=
 ⟨by have:=xQ xs c; have:=h.1; have:=hc.1; omega,fun x y=>(FB y).elim (h.2 x) (hc.2 x)⟩
theorem Iy:(Tryz.prog.info? 40).map (fun i=>(i.zero,i.size,i.bytes))=some (some (.agg #[.string ⟨#[]⟩,.slice none 0 0,.slice none 0 0]),3,64):=by kernel_rfl
def D.AtS (a:A):Prop:=Sm a.name∧a.args.length≤4∧∀ t ∈ a.args,Sm t.name
def D.TK (r:Ru):Prop:=AtS r.head∧r.body.length≤8∧∀ x ∈ r.body,XM x
structure gY (g p:Nat) (w:World) (xs:List Ru) (v:Value) (wr:World):Prop where
 coll:∃ L bs,bK 3 iD w.heap.size 40 wr v L xs bs∧∀ b ∈ bs,w.heap.size≤b
 small:∀ x ∈ xs,TK x
 rdr:kP g p wr
 kept:aI [g] w wr
 glt:g < w.heap.size
section
variable {g p:Nat} {w:World} {xs:List Ru} {v:Value} {wr:World}
theorem gY.call {p2:Nat} {w2:World} (h:gY g p w xs v wr) (I:kP g p2 w2) (hK:aI [g] wr w2):gY g p2 w xs v w2:=by
 obtain ⟨L,bs,J,y⟩:=h.coll;exact ⟨⟨L,bs,J.KA bI hK h.glt (fun U=>by have:=y g U; have:=h.glt; omega),y⟩,h.small,I,h.kept.trans hK,h.glt⟩
theorem gY.below {w2:World} (h:gY g p w xs v wr) (hB:Below wr.heap.size wr w2):gY g p w xs v w2:=by
 obtain ⟨L,bs,I,y⟩:=h.coll;exact ⟨⟨L,bs,I.below bI hB,y⟩,h.small,h.rdr.below hB,h.kept.fE hB h.kept.size,h.glt⟩
theorem gY.rules (h:gY g p w xs v wr):∃ bs,fA wr [v] xs bs∧∀ b ∈ bs,w.heap.size≤b:=by
 obtain ⟨L,bs,I,y⟩:=h.coll;obtain ⟨J,U,h2⟩:=I.slice;exact ⟨J,U,fun b hb=>(h2 b hb).elim id (y b)⟩
theorem gY.shape (h:gY g p w xs v wr):∃ A c,v=.slice A xs.length c:=by
 obtain ⟨L,bs,y,_⟩:=h.coll;exact dZ y.own
theorem gY.start (I:g < w.heap.size) (J:kP g p w):gY g p w [] (.slice (some ⟨w.heap.size,0,none⟩) 0 0) (w.alloc (.cells #[] 40)):=by
 have y:Below w.heap.size w (w.alloc (.cells #[] 40)):=ζ;exact ⟨⟨[],[],bK.empty (ω _ _) ν,fun b hb=>by simp at hb⟩,fun x U=>by simp at U,J.below y,aI.of_below y,I⟩
theorem gY.arm {r:Ru} {c0 c1 c2:Value} {y:List Nat} {W:World} (h:gY g p w xs v wr) (hB:Below wr.heap.size wr W) (hr:iD W [c0,c1,c2] r y) (I:∀ b ∈ y,wr.heap.size≤b):
  ∃ L bs,bK 3 iD w.heap.size 40 (W.alloc (.cells #[c0,c1,c2] 40)) v L xs bs∧(∀ b ∈ bs ++ y,w.heap.size≤b)∧aW 3 iD (W.alloc (.cells #[c0,c1,c2] 40)) [c0,c1,c2] [r] y∧
   Lies (W.alloc (.cells #[c0,c1,c2] 40)) (some ⟨W.heap.size,0,none⟩) [c0,c1,c2]∧(∀ b ∈ y,v.ownBlock ≠ some b)∧Below w.heap.size wr (W.alloc (.cells #[c0,c1,c2] 40))∧w.heap.size≤(W.alloc (.cells #[c0,c1,c2] 40)).heap.size:=by
 obtain ⟨L,bs,hC,J⟩:=h.coll;have hA:Below W.heap.size W (W.alloc (.cells #[c0,c1,c2] 40)):=ζ;have hs:=h.kept.size;have U:=hB.size;have hT:Below wr.heap.size wr (W.alloc (.cells #[c0,c1,c2] 40)):=hB.trans (hA.mono U);exact ⟨L,bs,hC.below bI hT,fun b hb=>(μ.1 hb).elim (J b) (fun hb=>by have:=I b hb; omega),aW.dP pF (bI.below hr hA),aV (ω _ _),fun b hb=>jk hC.own (I b hb),hT.mono hs,by simp; omega⟩
theorem gY.far (h:gY g p w xs v wr) {b:Nat} (hb:wr.heap.size≤b):v.ownBlock ≠ some b:=by
 obtain ⟨L,bs,y,I⟩:=h.coll;exact jk y.own hb
theorem gY.Xh {r:Ru} {c0 c1 c2:Value} {y:List Nat} {W:World} (h:gY g p w xs v wr) (hB:Below wr.heap.size wr W) (hr:iD W [c0,c1,c2] r y) (I:∀ b ∈ y,w.heap.size≤b∧v.ownBlock ≠ some b):
  ∃ L bs,bK 3 iD w.heap.size 40 (W.alloc (.cells #[c0,c1,c2] 40)) v L xs bs∧(∀ b ∈ bs ++ y,w.heap.size≤b)∧aW 3 iD (W.alloc (.cells #[c0,c1,c2] 40)) [c0,c1,c2] [r] y∧
   Lies (W.alloc (.cells #[c0,c1,c2] 40)) (some ⟨W.heap.size,0,none⟩) [c0,c1,c2]∧(∀ b ∈ y,v.ownBlock ≠ some b)∧Below w.heap.size wr (W.alloc (.cells #[c0,c1,c2] 40))∧w.heap.size≤(W.alloc (.cells #[c0,c1,c2] 40)).heap.size:=by
 obtain ⟨L,bs,hC,J⟩:=h.coll;have hA:Below W.heap.size W (W.alloc (.cells #[c0,c1,c2] 40)):=ζ;have hs:=h.kept.size;have U:=hB.size;have hT:Below wr.heap.size wr (W.alloc (.cells #[c0,c1,c2] 40)):=hB.trans (hA.mono U);exact ⟨L,bs,hC.below bI hT,fun b hb=>(μ.1 hb).elim (J b) (fun hb=>(I b hb).1),aW.dP pF (bI.below hr hA),aV (ω _ _),fun b hb=>(I b hb).2,hT.mono hs,by simp; omega⟩
theorem gY.app {J:World} {v4:Value} {L4:List Value} {I:List Nat} {y:Ru} (h:gY g p w xs v wr) (hC:bK 3 iD w.heap.size 40 J v4 L4 (xs ++ [y]) I) (U:∀ b ∈ I,w.heap.size≤b) (hB:Below w.heap.size wr J) (hy:TK y):gY g p w (xs ++ [y]) v4 J:=
 ⟨⟨L4,I,hC,U⟩,fun x hx=>(μ.1 hx).elim (h.small x) (fun hx=>by rw [ώ.1 hx]; exact hy),h.rdr.fE hB h.glt,h.kept.fE hB ν,h.glt⟩
end
def U3 (m g p q:Nat) (w:World) (e:Ending) (w':World):Prop:=
 ∃ (xs:List Ru) (v:Value) (y:Nat),e=.returned v∧xs.length≤m∧y≤p+q∧gY g y w xs v w'
theorem D.RS {w:World} {b:Nat} {no:Bool} {nm:ByteArray} {s:Value} {a:A} {U:List Nat} (h:w.heap[b]? = some (.cells #[.bool no,.string nm,s] 42 (0,0))) (ha:aK w [.string nm,s] a U):jd w [.slice (some ⟨b,0,none⟩) 1 1] [⟨no,a⟩] (b :: U):=by
 obtain ⟨s',J,hn,ht⟩:=ha;simp only [List.cons.injEq,and_true,Value.string.injEq] at J;obtain ⟨rfl,rfl⟩:=J;refine ⟨_,1,rfl,ν,by unfold maxLen; omega,fun h=>by simp at h,fun _=>⟨b,0,rfl,fun _=>[.bool no,.string a.name,s],fun _=>U,by simp,fun k t I=>?_⟩⟩
 match k,I with
 | 0,I=>
  simp only [List.getElem?_cons_zero,Option.some.injEq] at I;subst I;refine ⟨rfl,fun j v y=>?_,s,rfl,hn,ht⟩
  match j,y with
  | 0,y=>rw [ai h]; simpa using y
  | 1,y=>rw [ai h]; simpa using y
  | 2,y=>rw [ai h]; simpa using y
  | j+3,y=>simp at y
 | k+1,I=>simp at I
theorem D.AP {w:World} {b:Nat} {no U:Bool} {nm a0:ByteArray} {s s2:Value} {a a2:A} {b1 b2:List Nat} (h:w.heap[b]? = some (.cells #[.bool no,.string nm,s,.bool U,.string a0,s2] 42 (0,0)))
  (ha:aK w [.string nm,s] a b1) (a1:aK w [.string a0,s2] a2 b2):jd w [.slice (some ⟨b,0,none⟩) 2 2] [⟨no,a⟩,⟨U,a2⟩] (b :: (b1 ++ b2)):=by
 obtain ⟨s',I,hn,ht⟩:=ha;simp only [List.cons.injEq,and_true,Value.string.injEq] at I;obtain ⟨rfl,rfl⟩:=I;obtain ⟨a5,I,a3,a4⟩:=a1;simp only [List.cons.injEq,and_true,Value.string.injEq] at I;obtain ⟨rfl,rfl⟩:=I;refine ⟨_,2,rfl,ν,by unfold maxLen; omega,fun h=>by simp at h,fun _=>⟨b,0,rfl,fun k=>if k=0 then [.bool no,.string a.name,s] else [.bool U,.string a2.name,s2],fun k=>if k=0 then b1 else b2,by simp [List.range_succ],fun k t J=>?_⟩⟩
 match k,J with
 | 0,J=>
  simp only [List.getElem?_cons_zero,Option.some.injEq] at J;subst J;refine ⟨rfl,fun j v y=>?_,s,rfl,hn,ht⟩
  match j,y with
  | 0,y=>rw [ai h]; simpa using y
  | 1,y=>rw [ai h]; simpa using y
  | 2,y=>rw [ai h]; simpa using y
  | j+3,y=>simp at y
 | 1,J=>
  simp only [List.getElem?_cons_succ,List.getElem?_cons_zero,Option.some.injEq] at J;subst J;refine ⟨rfl,fun j v y=>?_,s2,rfl,a3,a4⟩
  match j,y with
  | 0,y=>rw [ai h]; simpa using y
  | 1,y=>rw [ai h]; simpa using y
  | 2,y=>rw [ai h]; simpa using y
  | j+3,y=>simp at y
 | k+2,J=>simp at J
theorem D.vU {w:World} {b:Nat} {x:ByteArray} {c:Bool} (h:w.heap[b]? = some (.cells #[.bool c,.string x] 91 (0,0))) (J:x.size≤maxLen):
  gI w [.slice (some ⟨b,0,none⟩) 1 1] [⟨c,x⟩] [b]:=by
 refine ⟨_,1,rfl,ν,by unfold maxLen; omega,fun h=>by simp at h,fun _=>⟨b,0,rfl,fun k=>[.bool c,.string x],fun _=>[],by simp,fun k t I=>?_⟩⟩
 match k,I with
 | 0,I=>
  simp only [List.getElem?_cons_zero,Option.some.injEq] at I;subst I;refine ⟨rfl,fun j v y=>?_,rfl,J,rfl⟩
  match j,y with
  | 0,y=>rw [ai h]; simpa using y
  | 1,y=>rw [ai h]; simpa using y
  | j+2,y=>simp at y
 | k+1,I=>simp at I
theorem wP (c:Ch) (c0 c1 y I:Value) (J U:List Nat) (w:World) (h:dY w [c0,c1] c J) (h2:dY w [y,I] c U):
  Calls Tryz.prog 31 #[.agg #[c0,c1],.agg #[y,I]] w fun e w'=>e=.returned (.bool true)∧Below w.heap.size w w':=
 (JA c c c0 c1 y I J U w h h2).mono fun e w' ⟨r,he,hr,hb⟩=>⟨by rw [he,hr.2 ⟨rfl,rfl⟩],hb⟩
theorem MN (xs:List A) (v1 v2:Value) (y I:List Nat) (w:World) (h:ay w [v1] xs y) (J:ay w [v2] xs I):
  Calls Tryz.prog 15 #[v1,v2] w fun e w'=>e=.returned (.bool true)∧Below w.heap.size w w':=
 (xH xs xs v1 v2 y I w h J).mono fun e w' ⟨r,he,hr,hb⟩=>⟨by rw [he,(by first | exact hr.2 rfl | simpa using hr:r=true)],hb⟩
end
end Go.Proofs.YtkjinanbccloeaaGreatDoor
