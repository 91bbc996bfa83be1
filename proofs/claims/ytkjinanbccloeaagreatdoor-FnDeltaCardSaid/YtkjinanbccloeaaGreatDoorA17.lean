/- Of the proof of FnDelta: Fs2, MergeS, MapT, MapR, SortI, QryQ, BdP, DoP. -/
import Derived.Test.YtkjinanbccloeaaGreatDoorA11
import Derived.Test.YtkjinanbccloeaaGreatDoorA12
import Derived.Test.YtkjinanbccloeaaGreatDoorA14
set_option linter.unusedVariables false
set_option maxHeartbeats 1000000
namespace Go.Proofs.YtkjinanbccloeaaGreatDoor
section
open Go.RowKit D
attribute [local go_sem ↓] Go.wp_at_zero Go.wp_at_succ
theorem Ip (c d:Ch) (c0 c1 d0 d1:Value) (b1 b2:List Nat) (w:World) (h:fQ w [c0,c1] c b1) (h2:fQ w [d0,d1] d b2):
  Calls Tryz.prog 31 #[.agg #[c0,c1],.agg #[d0,d1]] w (TG (c.comes=d.comes∧c.goes=d.goes) w):=by
 obtain ⟨Ad,cap,Ae,y,rfl,rfl⟩:=gy h;obtain ⟨Af,U,Ag,I,rfl,rfl⟩:=gy h2;obtain ⟨p1,p2,rfl,ht,hp⟩:=iG h;obtain ⟨p3,p4,rfl,a0,a1⟩:=iG h2;have hA:Below w.heap.size w ((w.alloc (.cells #[.slice Ad c.comes.length cap,.slice Ae c.goes.length y] 54)).alloc (.cells #[.slice Af d.comes.length U,.slice Ag d.goes.length I] 54)):=(ζ).alloc (by simp) _;have q1:=wQ c.comes d.comes _ _ p1 p3 _ (ak.below ht hA) (ak.below a0 hA);have q2:=fun w' (hb:Below w.heap.size w w')=>wQ c.goes d.goes _ _ p2 p4 w' (ak.below hp hb) (ak.below a1 hb)
 clear h h2 ht hp a0 a1
 go_enter Tryz.func31,Tryz.ntmps31
 go_wp2_with fail
 refine q1.mono ?_;rintro e w1 ⟨r,rfl,hr,J⟩;have HR:=η hr;have B1:=hA.trans (J.mono hA.size);have x1:w1.cell? ⟨w.heap.size,1,none⟩=some (.slice Ae c.goes.length y):=ξ J (by go_simp);have y1:w1.cell? ⟨w.heap.size+1,1,none⟩=some (.slice Ag d.goes.length I):=ξ J (by go_simp);clear q1 hr hA;cases r
 ·have HW:Hid (¬ (c.comes=d.comes∧c.goes=d.goes)):=η (fun e=>by have:=HR.out.2 e.1; cases this)
  clear q2;go_wp2;go_ret;exact ⟨false,rfl,by simpa using HW.out,B1⟩
 ·have HE:=η (HR.out.1 rfl)
  go_wp2_with fail
  refine (q2 _ B1).mono ?_;rintro e w2 ⟨r2,rfl,a2,a5⟩;have a3:=η a2;have a4:=η (B1.trans (a5.mono B1.size));clear a2 q2;cases r2
  ·have HW:Hid (¬ (c.comes=d.comes∧c.goes=d.goes)):=η (fun e=>by have:=a3.out.2 e.2; cases this)
   go_wp2;go_ret;exact ⟨false,rfl,by simpa using HW.out,a4.out⟩
  ·have HW:Hid (c.comes=d.comes∧c.goes=d.goes):=η ⟨HE.out,a3.out.1 rfl⟩
   go_wp2;go_ret;exact ⟨true,rfl,by simpa using HW.out,a4.out⟩
end
section
open Go.RowKit D Go.Shelf
attribute [local go_sem ↓] Go.wp_at_zero Go.wp_at_succ
theorem uh (n:Nat) (hn:1≤n) (I U:Nat) (xs ys:List A) (v1 v2:Value) (bs1 bs2:List Nat) (wd w0:World) (h1:aB wd [v1] xs bs1) (h2:aB wd [v2] ys bs2)
  (Kp:World→World→Prop) (a0:∀ W W',Kp W W'→MInv I U v1 v2 wd W→MInv I U v1 v2 wd W') (h0:MInv I U v1 v2 wd w0):
  SeqStopsK Fence.wide n Tryz.prog 197 #[.pointer (some ⟨I,0,none⟩),.pointer (some ⟨U,0,none⟩)] (fun x:oO wd=>x.enc) Kp
   (fun y=>y.map oO.key=bP xs ys) (fun y=>∃ rest,y.map oO.key ++ rest=bP xs ys) (bP xs ys).length w0:=fun l J Jx W hW hJ _ hY a1=>by
 refine (QG n hn l I U xs ys v1 v2 bs1 bs2 wd h1 h2 Kp a0 J Jx W (h0.below hW) hJ hY a1).mono ?_;rintro e W' ⟨he,⟨y,h,hj⟩ | ⟨y,rest,h,hj⟩⟩
 ·exact ⟨he,.inl ⟨y,h,hj⟩⟩
 ·exact ⟨he,.inr ⟨y,⟨rest,h⟩,hj⟩⟩
theorem merge_any (y I:Option Addr) (J c1 U c2:Nat) (w:World):
  Calls Tryz.prog 143 #[.agg #[.slice y J c1,.func (.func 64) #[] #[]],.agg #[.slice I U c2,.func (.func 64) #[] #[]]] w fun e w'=>
   e=.returned (.func (.func 197) #[] #[.pointer (some ⟨w.heap.size,0,none⟩),.pointer (some ⟨w.heap.size+1,0,none⟩)])∧
   w'=(w.alloc (.cells #[.slice y J c1,.func (.func 64) #[] #[]] 112)).alloc (.cells #[.slice I U c2,.func (.func 64) #[] #[]] 112):=by
 go_enter Tryz.func143,Tryz.ntmps143
 go_wp2;go_ret;exact ⟨rfl,rfl⟩
end
section
open Go.RowKit Go.ChangeMaps Go.MapKept D
def D.Gp (b:Nat) (w:World):Prop:=∃ es y,w.heap[b]? = some (.map es y)∧(∀ x ∈ es.toList,x.born < y)∧(es.toList.map (·.born)).Nodup
theorem D.Gp.push {b J:Nat} {es:Array MapEntry} {w:World} (hb:w.heap[b]? = some (.map es J)) (k v:Value) (h:Gp b w):Gp b (setBlock w b (.map (es.push ⟨k,v,J⟩) (J+1))):=by
 obtain ⟨a0,a1,h1,U,h3⟩:=h;rw [hb] at h1;cases h1;refine ⟨_,_,heap_setBlock_same hb _,fun x I=>?_,?_⟩
 ·rw [Array.toList_push] at I
  rcases μ.1 I with I | I
  ·exact Nat.lt_succ_of_lt (U x I)
  ·rw [List.mem_singleton.1 I]; exact Nat.lt_succ_self _
 ·rw [Array.toList_push,List.map_append]
  refine List.nodup_append.2 ⟨h3,by simp,fun x I y hy e=>?_⟩;obtain ⟨z,hz,rfl⟩:=List.mem_map.1 I;simp at hy;have:=U z hz;omega
theorem yC {P:Program} {kt:TypeId} {W:World→Prop} {S:Value→Prop} (hK:JQ P kt W S) {w:World} (hW:W w) {t e:TypeId} (ht:P.underlying t=some (.map kt e)) {b:Nat} {L:List (Value × Value)} {k:Value} (v:Value) (h:nS S b L w) (I:S k) (hk:∀ p ∈ L,p.1 ≠ k):
  ∃ w',(Instr.mapUpdate t (.map (some b)) k v).run P w=.ok () w'∧nS S b (L ++ [(k,v)]) w'∧w.grownBy w' (some b)∧(Gp b w→Gp b w'):=by
 obtain ⟨⟨es,ck,hb,rfl⟩,h2,h3⟩:=h;have J:∀ e ∈ es.toList,S e.key:=fun e he=>h2 (e.key,e.val) (List.mem_map.2 ⟨e,he,rfl⟩)
 rcases mJ hK hW I es.toList J with ⟨h5,h6⟩ | ⟨i,U,h5,h6,h7⟩
 ·refine ⟨setBlock w b (.map (es.push ⟨k,v,ck⟩) (ck+1)),?_,⟨⟨_,_,heap_setBlock_same hb _,by simp⟩,?_,?_⟩,lU hb _,Gp.push hb k v⟩
  ·simp [Instr.mapUpdate,run_underlying ht,MapKept.run_getObj_map hb,hK.check w false I,h5,MapKept.run_setObj_map _ hb,Result.andThen,setBlock]
  ·intro p y
   rcases μ.1 y with y | y
   ·exact h2 p y
   ·rw [List.mem_singleton.1 y]
    exact I
  ·refine List.pairwise_append.2 ⟨h3,List.pairwise_singleton _ _,fun p y q hq=>?_⟩
   rw [List.mem_singleton.1 hq];exact hk p y
 ·exact absurd h7 (hk (U.key,U.val) (List.mem_map.2 ⟨U,List.mem_of_getElem? h6,rfl⟩))
end
section
open Go.RowKit Go.Maps D
theorem D.iI.Lc {b n:Nat} {L:List ByteArray} {f:ByteArray→Int} {w:World} (h:iI b n L f w) {s:ByteArray} (J:s.size≤maxLen) {v:Int} (hv:(if s ∈ L then f s else 0)=v):
  (Instr.lookup 116 (.map (some b)) (.string s) false).run Tryz.prog w=.ok (.int .i64 v) w:=by
 obtain ⟨⟨M,h1,h2,U,h4⟩,h5,h6⟩:=h;obtain ⟨d,y,I,hw⟩:=h1.lookup_int Ox Tryz.underlying116 Tryz.underlying3 (Ul w) (uX J);rw [y]
 have:d=v:=by
  rw [← hv]
  split
  ·rename_i hmem
   have:=h4 s hmem;rw [this] at I;exact zC I.symm
  ·rename_i hmem
   have h7:has M (BQ s)=false:=by rw [U s]; simpa using hmem
   rw [atKey_of_not_has h7] at I;exact zC I.symm
 rw [this]
end
section
open Go.RowKit Go.Sort D
theorem Iq (xs:List ByteArray) (v:Value) (L:List Value) (base:Nat) (w:World) (hC:aY 1 jY base 9 w v L xs []) (hl:xs.length≤16777216):
  Calls Tryz.prog 226 #[v] w fun e w'=>∃ (v2:Value) (ys:List ByteArray),e=.returned v2∧ys.map (·.data.toList)=Lib.compact (xs.map (·.data.toList))∧aY 1 jY base 9 w' v2 (ys.map Value.string) ys []∧w.grownBy w' v.ownBlock:=by
 obtain ⟨rfl,hs,_⟩:=F9 hC;have I:=hC.own
 rcases I.2 with ⟨rfl,hx⟩ | ⟨g,cap,a4,rfl,a1,hb,h1,h2,h3,h4⟩
 ·have a2:xs = []:=by simpa using hx
  subst a2;refine (Tryz.slices_Compact_string_empty none 0 w).mono ?_;rintro e w' ⟨rfl,rfl⟩;exact ⟨_,[],rfl,by simp [Lib.compact,Lib.compactUpTo],aY.nil _,World.grownBy.refl _ _⟩
 ·have J:(xs.map (·.data.toList)).length=xs.length:=by simp
  have hH:Holds encStr w g 0 (xs.map (·.data.toList)).toArray:=holds_of_block hb (by rw [J,Lib.map_encStr]; simpa using h4);have c:=Tryz.slices_Compact_string g 0 cap (xs.map (·.data.toList)) w hH (by omega) (by omega);rw [J] at c;refine c.mono ?_;rintro e w' ⟨rfl,q,rfl⟩;obtain ⟨zs,U⟩:∃ zs,Lib.compact (xs.map (·.data.toList))=zs:=⟨_,rfl⟩;have a3:zs.length≤xs.length:=by rw [← U,← J]; exact Om _
  rw [U];have y:=Lib.ownsRow_putRow (enc:=encStr) (zs:=xs.map (·.data.toList)) (ys:=zs ++ List.replicate (xs.length - zs.length) []) (q:=q) (k:=zs.length) (by rw [Lib.map_encStr]; exact I) (by simp; omega) a3;rw [List.take_append_of_le_length ν,ϕ ν] at y;have a0:(Dz zs).length=zs.length:=by unfold Dz; rw [List.length_map]
  rw [← KJ,← a0] at y;refine ⟨_,Dz zs,rfl,DC _,?_,?_⟩
  ·rw [← a0]
   exact yc y (Gf fun b hb=>DF hs b ((AX _ _).1 (by rw [U]; exact hb)))
  ·have:=grownBy_sorted (w:=w) (g:=g) (n:=q) (os:=#[]) (zs ++ List.replicate (xs.length - zs.length) []).toArray
   rw [grow_empty] at this;exact this
end
section
open Go.RowKit D
theorem D.Uu {w w':World} {base e size n:Nat} {v:Value} {L:List Value} (h:w.ownsRow base e size v n L) (I:∀ b,v.ownBlock=some b→w'.heap[b]? = w.heap[b]?):w'.ownsRow base e size v n L:=by
 refine ⟨h.1,?_⟩
 rcases h.2 with J | ⟨g,cap,y,rfl,U,h4,h5⟩
 ·exact .inl J
 ·exact .inr ⟨g,cap,y,rfl,U,(I g (by simp [Value.ownBlock])).trans h4,h5⟩
theorem D.bH {w:World} {base e size n b:Nat} {v:Value} {L:List Value} (h:w.ownsRow base e size v n L) (hb:v.ownBlock=some b):base≤b∧b < w.heap.size:=by
 rcases h.2 with ⟨rfl,_⟩ | ⟨g,cap,y,rfl,I,J,_⟩
 ·simp [Value.ownBlock] at hb
 ·simp [Value.ownBlock] at hb
  subst hb;exact ⟨I,ψ J⟩
theorem D.aY.nI {α:Type} {n:Nat} {R:Rel α} {base e:Nat} {w w':World} {v:Value} {L:List Value} {xs:List α} {bs:List Nat} (g:Good R) (h:aY n R base e w v L xs bs)
  (h1:∀ b,v.ownBlock=some b→w'.heap[b]? = w.heap[b]?) (y:∀ b ∈ bs,w'.heap[b]? = w.heap[b]?):aY n R base e w' v L xs bs:=
 ⟨Uu h.own h1,h.row.keep g y,h.far⟩
theorem D.QT (ps:List Pt) (k:Nat) (h:k < ps.length):iq (ps.take (k+1))=iq (ps.take k) ++ (if ps[k].no then [] else [ps[k].atom]):=by
 unfold iq;rw [ρ h,List.filter_append,List.map_append]
 cases hn:ps[k].no <;> simp [hn]
theorem D.QU (ps:List Pt) (k:Nat) (h:k < ps.length):dZ (ps.take (k+1))=dZ (ps.take k) ++ (if ps[k].no then [ps[k].atom] else []):=by
 unfold dZ;rw [ρ h,List.filter_append,List.map_append]
 cases hn:ps[k].no <;> simp [hn]
structure D.vI (vars:List ByteArray) (w:World) (hz hb B:Nat) (vv:Value) (b3:List Nat) (v1:Value) (L1:List Value) (xs1:List A) (bs1:List Nat) (v2:Value) (L2:List Value) (xs2:List A) (bs2:List Nat) (wr:World):Prop where
 r0:wr.heap[hz]? = some (.cells #[.slice none 0 0,.slice none 0 0,.slice none 0 0] 164 (0,0))
 r1:wr.heap[hb]? = some (.cells #[v1,v2,vv] 164 (0,0))
 h0:w.heap.size≤hz
 h1:hz < hb
 hB:hb < B
 c1:aY 2 (EL vars) B 168 wr v1 L1 xs1 bs1
 c2:aY 2 (EL vars) B 168 wr v2 L2 xs2 bs2
 k1:∀ b ∈ bs1,B≤b
 k2:∀ b ∈ bs2,B≤b
 f12:∀ b,v1.ownBlock=some b→v2.ownBlock ≠ some b∧b ∉ bs2
 f21:∀ b,v2.ownBlock=some b→b ∉ bs1
 vs:jK wr [vv] vars b3
 kv:∀ b ∈ b3,w.heap.size≤b∧b < hb∧b ≠ hz
 bel:Below w.heap.size w wr
 qi:B≤wr.heap.size
section
variable {vars:List ByteArray} {w:World} {hz hb B:Nat} {vv:Value} {b3:List Nat} {v1:Value} {L1:List Value} {xs1:List A} {bs1:List Nat} {v2:Value} {L2:List Value} {xs2:List A} {bs2:List Nat} {wr:World}
theorem D.vI.later {w' : World} (h : vI vars w hz hb B vv b3 v1 L1 xs1 bs1 v2 L2 xs2 bs2 wr) (y : Below wr.heap.size wr w') : vI vars w hz hb B vv b3 v1 L1 xs1 bs1 v2 L2 xs2 bs2 w' :=
  ⟨(y.block _ (lt_of_block h.r0)).trans h.r0, (y.block _ (lt_of_block h.r1)).trans h.r1, h.h0, h.h1, h.hB, h.c1.below (iL _) y, h.c2.below (iL _) y, h.k1, h.k2, h.f12, h.f21, bY.below h.vs y, h.kv,
    h.bel.trans (y.mono h.bel.size), Nat.le_trans h.qi y.size⟩
theorem D.vI.lit {a:A} {y:Value} {b9:List Nat} {w2:World} {v:Value} {L:List Value} {n:Nat} (U:Below wr.heap.size wr w2) (hB:B≤wr.heap.size) (I:wr.ownsRow B 168 2 v n L) (a0:a.name.size≤maxLen) (hp:kQ vars w2 [y] a.args b9) (h9:Value.oneCell' y=true):
  (w2.alloc (.cells #[.string a.name,y] 168)).ownsRow B 168 2 v n L∧
   Lies (w2.alloc (.cells #[.string a.name,y] 168)) (some ⟨w2.heap.size,0,none⟩) [.string a.name,y]∧(∀ u ∈ [.string a.name,y],Value.oneCell' u=true)∧B≤(w2.alloc (.cells #[.string a.name,y] 168)).heap.size:=by
 have hA:Below w2.heap.size w2 (w2.alloc (.cells #[.string a.name,y] 168)):=ζ;have hb:=U.trans (hA.mono U.size);refine ⟨own_below I hb,by have:=aS (ω w2 (.cells #[.string a.name,y] 168)); simpa using this,fun u J=>?_,τ hB hb.size⟩
 rcases List.mem_cons.1 J with rfl | J
 ·rfl
 ·rw [List.mem_singleton.1 J]; exact h9
theorem D.vI.app1 {a:A} {U:Value} {b9:List Nat} {w2 w5:World} {A5:Option Addr} {c5:Nat} (h:vI vars w hz hb B vv b3 v1 L1 xs1 bs1 v2 L2 xs2 bs2 wr) (hk:Below wr.heap.size wr w2) (a7:a.name.size≤maxLen) (hp:kQ vars w2 [U] a.args b9) (hn:New wr.heap.size w2 b9) (h9:Value.oneCell' U=true)
  (a5:w5.ownsRow B 168 2 (.slice A5 (xs1.length+1) c5) (xs1.length+1) (L1 ++ [.string a.name,U])) (hg:(w2.alloc (.cells #[.string a.name,U] 168)).grownBy w5 v1.ownBlock)
  (a2:(Value.slice A5 (xs1.length+1) c5).ownBlock=v1.ownBlock∨(Value.slice A5 (xs1.length+1) c5).ownBlock=some (w2.alloc (.cells #[.string a.name,U] 168)).heap.size):
  w5.cell? ⟨hb,0,none⟩=some v1∧w5.cell? ⟨hb,1,none⟩=some v2∧w5.cell? ⟨hb,2,none⟩=some vv∧w5.frozen? ⟨hb,0,none⟩=false∧
   vI vars w hz hb B vv b3 (.slice A5 (xs1.length+1) c5) (L1 ++ [.string a.name,U]) (xs1 ++ [a]) (bs1 ++ b9) v2 L2 xs2 bs2 (w5.setCell ⟨hb,0,none⟩ (.slice A5 (xs1.length+1) c5)):=by
 have hA:Below w2.heap.size w2 (w2.alloc (.cells #[.string a.name,U] 168)):=ζ;have a8:=hk.trans (hA.mono hk.size);have h2:=h.later a8;have ag:=h2.qi;have am:=hk.size;have a9:=h.hB;have aa:=h.h1;have ab:=h.h0;have ao:=h.qi;have g9:∀ b ∈ b9,wr.heap.size≤b∧b < w2.heap.size:=fun b hb=>⟨(hn.own b hb).1,hn.lt hb⟩
 have a0:∀ b,b < w2.heap.size+1→v1.ownBlock ≠ some b→w5.heap[b]? = (w2.alloc (.cells #[.string a.name,U] 168)).heap[b]?:=fun b hb a4=>hg.block b (by simpa using hb) (fun e=>a4 e.symm)
 have o1:∀ b,v1.ownBlock=some b→B≤b∧b < wr.heap.size:=fun b hb=>bH h.c1.own hb
 have o2:∀ b,v2.ownBlock=some b→B≤b∧b < wr.heap.size:=fun b hb=>bH h.c2.own hb
 have l1:∀ b ∈ bs1,b < wr.heap.size:=fun b hb=>h.c1.row.lt (iL _) b hb
 have l2:∀ b ∈ bs2,b < wr.heap.size:=fun b hb=>h.c2.row.lt (iL _) b hb
 have n1:v1.ownBlock ≠ some hb:=fun e=>by have:=(o1 _ e).1; omega
 have n0:v1.ownBlock ≠ some hz:=fun e=>by have:=(o1 _ e).1; omega
 have a1:=(a0 hb (by omega) n1).trans h2.r1;have ac:=(a0 hz (by omega) n0).trans h2.r0;have ae:EL vars (w2.alloc (.cells #[.string a.name,U] 168)) [.string a.name,U] a b9:=⟨U,rfl,a7,(dm _).below hp hA⟩
 have af:aY 2 (EL vars) B 168 w5 (.slice A5 (xs1.length+1) c5) (L1 ++ [.string a.name,U]) (xs1 ++ [a]) (bs1 ++ b9):=
  h2.c1.app (iL _) (aT.dH (Gl _) ae) (fun b hb e=>by have:=(o1 _ e).2; have:=(g9 b hb).1; omega) a5 hg a2
 have J:∀ b,b ≠ hb→(w5.setCell ⟨hb,0,none⟩ (.slice A5 (xs1.length+1) c5)).heap[b]? = w5.heap[b]?:=fun b a4=>π _ _ _ _ a4
 have a3:∀ b,(Value.slice A5 (xs1.length+1) c5).ownBlock=some b→v1.ownBlock=some b∨b=w2.heap.size+1:=fun b e=>by
  rcases a2 with I | I
  ·left; rw [← I]; exact e
  ·right; rw [I] at e; simp at e; omega
 refine ⟨ai a1,ai a1,ai a1,ax a1,⟨(J _ (by omega)).trans ac,?_,ab,aa,a9,?_,?_,?_,h.k2,?_,?_,?_,h.kv,?_,?_⟩⟩
 ·have:=bW (o:=0) (u:=.slice A5 (xs1.length+1) c5) a1
  simpa using this
 ·exact af.nI (iL _) (fun b e=>J b (fun e2=>by
   subst e2
   rcases a3 _ e with I | I
   ·exact n1 I
   ·omega)) (fun b y=>J b (fun e2=>by
   subst e2
   rcases μ.1 y with I | I
   ·have:=h.k1 _ I; omega
   ·have:=(g9 _ I).1; omega))
 ·refine (h2.c2.nI (iL _) (fun b e=>?_) (fun b y=>?_))
  ·have:=o2 _ e
   rw [J b (by omega)];exact a0 b (by omega) (fun e2=>(h.f12 b e2).1 e)
  ·have:=l2 _ y
   have:=h.k2 _ y;rw [J b (by omega)];exact a0 b (by omega) (fun e2=>(h.f12 b e2).2 y)
 ·intro b y
  rcases μ.1 y with I | I
  ·exact h.k1 _ I
  ·have:=(g9 _ I).1; omega
 ·intro b e
  rcases a3 _ e with I | I
  ·exact h.f12 b I
  ·exact ⟨fun e2=>by have:=(o2 _ e2).2; omega,fun e2=>by have:=l2 _ e2; omega⟩
 ·intro b e y
  rcases μ.1 y with I | I
  ·exact h.f21 b e I
  ·have:=(o2 _ e).2; have:=(g9 _ I).1; omega
 ·refine bY.keep h2.vs fun b y=>?_
  have:=h.kv b y;rw [J b (by omega)];exact a0 b (by omega) (fun e=>by have:=(o1 _ e).1; omega)
 ·have a6:Below w.heap.size w w5:=h2.bel.grown hg h2.bel.size fun k e=>by have:=(o1 _ e).1; omega
  exact a6.setCell (by show w.heap.size≤hb; omega) _
 ·have:=hg.size; simp [World.setCell]; simp at this; omega
theorem D.vI.Yq {a:A} {U:Value} {b9:List Nat} {w2 w5:World} {A5:Option Addr} {c5:Nat} (h:vI vars w hz hb B vv b3 v1 L1 xs1 bs1 v2 L2 xs2 bs2 wr) (hk:Below wr.heap.size wr w2) (a7:a.name.size≤maxLen) (hp:kQ vars w2 [U] a.args b9) (hn:New wr.heap.size w2 b9) (h9:Value.oneCell' U=true)
  (a5:w5.ownsRow B 168 2 (.slice A5 (xs2.length+1) c5) (xs2.length+1) (L2 ++ [.string a.name,U])) (hg:(w2.alloc (.cells #[.string a.name,U] 168)).grownBy w5 v2.ownBlock)
  (a3:(Value.slice A5 (xs2.length+1) c5).ownBlock=v2.ownBlock∨(Value.slice A5 (xs2.length+1) c5).ownBlock=some (w2.alloc (.cells #[.string a.name,U] 168)).heap.size):
  w5.cell? ⟨hb,0,none⟩=some v1∧w5.cell? ⟨hb,1,none⟩=some v2∧w5.cell? ⟨hb,2,none⟩=some vv∧w5.frozen? ⟨hb,1,none⟩=false∧
   vI vars w hz hb B vv b3 v1 L1 xs1 bs1 (.slice A5 (xs2.length+1) c5) (L2 ++ [.string a.name,U]) (xs2 ++ [a]) (bs2 ++ b9) (w5.setCell ⟨hb,1,none⟩ (.slice A5 (xs2.length+1) c5)):=by
 have hA:Below w2.heap.size w2 (w2.alloc (.cells #[.string a.name,U] 168)):=ζ;have a8:=hk.trans (hA.mono hk.size);have h2:=h.later a8;have ag:=h2.qi;have am:=hk.size;have a9:=h.hB;have aa:=h.h1;have ab:=h.h0;have ao:=h.qi;have g9:∀ b ∈ b9,wr.heap.size≤b∧b < w2.heap.size:=fun b hb=>⟨(hn.own b hb).1,hn.lt hb⟩
 have a0:∀ b,b < w2.heap.size+1→v2.ownBlock ≠ some b→w5.heap[b]? = (w2.alloc (.cells #[.string a.name,U] 168)).heap[b]?:=fun b hb a4=>hg.block b (by simpa using hb) (fun e=>a4 e.symm)
 have o1:∀ b,v1.ownBlock=some b→B≤b∧b < wr.heap.size:=fun b hb=>bH h.c1.own hb
 have o2:∀ b,v2.ownBlock=some b→B≤b∧b < wr.heap.size:=fun b hb=>bH h.c2.own hb
 have l1:∀ b ∈ bs1,b < wr.heap.size:=fun b hb=>h.c1.row.lt (iL _) b hb
 have l2:∀ b ∈ bs2,b < wr.heap.size:=fun b hb=>h.c2.row.lt (iL _) b hb
 have n1:v2.ownBlock ≠ some hb:=fun e=>by have:=(o2 _ e).1; omega
 have n0:v2.ownBlock ≠ some hz:=fun e=>by have:=(o2 _ e).1; omega
 have a1:=(a0 hb (by omega) n1).trans h2.r1;have ac:=(a0 hz (by omega) n0).trans h2.r0;have ae:EL vars (w2.alloc (.cells #[.string a.name,U] 168)) [.string a.name,U] a b9:=⟨U,rfl,a7,(dm _).below hp hA⟩
 have af:aY 2 (EL vars) B 168 w5 (.slice A5 (xs2.length+1) c5) (L2 ++ [.string a.name,U]) (xs2 ++ [a]) (bs2 ++ b9):=
  h2.c2.app (iL _) (aT.dH (Gl _) ae) (fun b hb e=>by have:=(o2 _ e).2; have:=(g9 b hb).1; omega) a5 hg a3
 have J:∀ b,b ≠ hb→(w5.setCell ⟨hb,1,none⟩ (.slice A5 (xs2.length+1) c5)).heap[b]? = w5.heap[b]?:=fun b a4=>π _ _ _ _ a4
 have a2:∀ b,(Value.slice A5 (xs2.length+1) c5).ownBlock=some b→v2.ownBlock=some b∨b=w2.heap.size+1:=fun b e=>by
  rcases a3 with I | I
  ·left; rw [← I]; exact e
  ·right; rw [I] at e; simp at e; omega
 refine ⟨ai a1,ai a1,ai a1,ax a1,⟨(J _ (by omega)).trans ac,?_,ab,aa,a9,?_,?_,h.k1,?_,?_,?_,?_,h.kv,?_,?_⟩⟩
 ·have:=bW (o:=1) (u:=.slice A5 (xs2.length+1) c5) a1
  simpa using this
 ·refine (h2.c1.nI (iL _) (fun b e=>?_) (fun b y=>?_))
  ·have:=o1 _ e
   rw [J b (by omega)];exact a0 b (by omega) (fun e2=>(h.f12 b e).1 e2)
  ·have:=l1 _ y
   have:=h.k1 _ y;rw [J b (by omega)];exact a0 b (by omega) (fun e2=>h.f21 b e2 y)
 ·exact af.nI (iL _) (fun b e=>J b (fun e2=>by
   subst e2
   rcases a2 _ e with I | I
   ·exact n1 I
   ·omega)) (fun b y=>J b (fun e2=>by
   subst e2
   rcases μ.1 y with I | I
   ·have:=h.k2 _ I; omega
   ·have:=(g9 _ I).1; omega))
 ·intro b y
  rcases μ.1 y with I | I
  ·exact h.k2 _ I
  ·have:=(g9 _ I).1; omega
 ·intro b e
  refine ⟨fun e2=>?_,fun y=>?_⟩
  ·rcases a2 _ e2 with I | I
   ·exact (h.f12 b e).1 I
   ·have:=(o1 _ e).2; omega
  ·rcases μ.1 y with I | I
   ·exact (h.f12 b e).2 I
   ·have:=(o1 _ e).2; have:=(g9 _ I).1; omega
 ·intro b e y
  rcases a2 _ e with I | I
  ·exact h.f21 b I y
  ·have:=l1 _ y; omega
 ·refine bY.keep h2.vs fun b y=>?_
  have:=h.kv b y;rw [J b (by omega)];exact a0 b (by omega) (fun e=>by have:=(o2 _ e).1; omega)
 ·have a6:Below w.heap.size w w5:=h2.bel.grown hg h2.bel.size fun k e=>by have:=(o2 _ e).1; omega
  exact a6.setCell (by show w.heap.size≤hb; omega) _
 ·have:=hg.size; simp [World.setCell]; simp at this; omega
end
def D.IV (vars:List ByteArray) (b:Bd) (i:Nat):ByteArray:=if h:i < vars.length then jv b vars[i] else ⟨#[]⟩
structure D.iJ (vars:List ByteArray) (b:Bd) (blk o:Nat) (w:World):Prop where
 wd:∀ i,i < 12→w.cell? ⟨blk,o+i,none⟩=some (.string (IV vars b i))
 bd:∀ i,i < 12→∃ z:Int,w.cell? ⟨blk,o+12+i,none⟩=some (.int .i64 z)∧∀ h:i < b.length,z=(vars.idxOf b[i].1:Nat)
 ct:w.cell? ⟨blk,o+24,none⟩=some (.int .i64 b.length)
 fz:∀ i,i < 25→w.frozen? ⟨blk,o+i,none⟩=false
structure D.jT (vars:List ByteArray) (b:Bd):Prop where
 inn:∀ p ∈ b,p.1 ∈ vars
 once:(b.map (·.1)).Nodup
 full:∀ p ∈ b,p.2 ≠ ⟨#[]⟩
 size:∀ p ∈ b,p.2.size≤maxLen
structure D.jU (vars:List ByteArray):Prop where
 few:vars.length≤12
 once:vars.Nodup
theorem D.zF {b:Bd} {n:ByteArray}:gq b n=none ↔ ∀ p ∈ b,p.1 ≠ n:=by
 induction b with
 | nil=>simp [gq]
 | cons p b ih=>
  rw [gq]
  split
  ·rename_i h; simp [h]
  ·rename_i h; simp [h,ih]
theorem D.yD {b:Bd} {n v:ByteArray} (h:gq b n=some v):(n,v) ∈ b:=by
 induction b with
 | nil=>simp [gq] at h
 | cons p b ih=>
  rw [gq] at h
  split at h
  ·rename_i e
   cases h;subst e;exact Γ
  ·exact Δ _ (ih h)
theorem D.D6 {b:Bd} {n v:ByteArray} (h:gq b n=none):gq (b ++ [(n,v)]) n=some v:=by rw [nC,h]; simp [gq]
theorem D.BU {b:Bd} {n m v:ByteArray} (h:n ≠ m):gq (b ++ [(n,v)]) m=gq b m:=by
 rw [nC];simp [gq,h]
theorem D.jT.qF {vars:List ByteArray} {b:Bd} (h:jT vars b) (n:ByteArray):jv b n=⟨#[]⟩ ↔ gq b n=none:=by
 unfold jv
 cases hg:gq b n with
 | none=>simp
 | some v=>simp [h.full _ (yD hg)]
theorem D.jT.len {vars:List ByteArray} {b:Bd} (h:jT vars b):b.length≤vars.length:=by
 have:(b.map (·.1)).length≤vars.length:=qw h.once fun x y=>by
  obtain ⟨p,I,rfl⟩:=List.mem_map.1 y;exact h.inn p I
 simpa using this
theorem D.jT.lt {vars:List ByteArray} {b:Bd} (h:jT vars b) {n:ByteArray} (hn:n ∈ vars) (U:gq b n=none):b.length < vars.length:=by
 have y:(n :: b.map (·.1)).Nodup:=List.nodup_cons.2 ⟨fun hm=>by
  obtain ⟨p,I,e⟩:=List.mem_map.1 hm
  exact zF.1 U p I e,h.once⟩
 have:(n :: b.map (·.1)).length≤vars.length:=qw y fun x J=>by
  rcases List.mem_cons.1 J with rfl | J
  ·exact hn
  ·obtain ⟨p,I,rfl⟩:=List.mem_map.1 J
   exact h.inn p I
 simp at this;omega
theorem D.jT.snoc {vars:List ByteArray} {b:Bd} (h:jT vars b) {n v:ByteArray} (hn:n ∈ vars) (U:gq b n=none) (hv:v ≠ ⟨#[]⟩) (hs:v.size≤maxLen):jT vars (b ++ [(n,v)]):=by
 refine ⟨fun p I=>?_,?_,fun p I=>?_,fun p I=>?_⟩
 ·rcases μ.1 I with I | I
  ·exact h.inn p I
  ·rw [List.mem_singleton.1 I]; exact hn
 ·rw [List.map_append]
  refine List.nodup_append.2 ⟨h.once,by simp,fun x hx y J e=>?_⟩;simp at J;obtain ⟨p,I,rfl⟩:=List.mem_map.1 hx;exact zF.1 U p I (e.trans J)
 ·rcases μ.1 I with I | I
  ·exact h.full p I
  ·rw [List.mem_singleton.1 I]; exact hv
 ·rcases μ.1 I with I | I
  ·exact h.size p I
  ·rw [List.mem_singleton.1 I]; exact hs
theorem D.jT.init {vars:List ByteArray} {b:Bd} {p:ByteArray × ByteArray} (h:jT vars (b ++ [p])):jT vars b∧p.1 ∈ vars∧gq b p.1=none:=by
 have y:=h.once;rw [List.map_append] at y;obtain ⟨I,_,J⟩:=List.nodup_append.1 y;exact ⟨⟨fun q hq=>h.inn q (Ξ _ hq),I,fun q hq=>h.full q (Ξ _ hq),fun q hq=>h.size q (Ξ _ hq)⟩,h.inn p (by simp),zF.2 fun q hq e=>J q.1 (List.mem_map.2 ⟨q,hq,rfl⟩) p.1 (by simp) e⟩
theorem D.jT.nil (vars:List ByteArray):jT vars []:=⟨fun p h=>by simp at h,by simp,fun p h=>by simp at h,fun p h=>by simp at h⟩
theorem D.jT.QV {vars:List ByteArray} {b:Bd} (h:jT vars b) {t:T} (y:t.var=false→t.name.size≤maxLen):(dK b t).name.size≤maxLen:=by
 unfold dK;cases hv:t.var
 ·simpa using y hv
 ·simp only [if_true,jv]
  cases hg:gq b t.name with
  | none=>decide
  | some v=>exact h.size _ (yD hg)
theorem D.Ld {vars:List ByteArray} (hv:jU vars) {b:Bd} {n v:ByteArray} (hn:n ∈ vars) (J:gq b n=none) (i:Nat):
  IV vars (b ++ [(n,v)]) i=if i=vars.idxOf n then v else IV vars b i:=by
 have hl:=List.idxOf_lt_length_of_mem hn;unfold IV;by_cases y:i < vars.length
 ·rw [dif_pos y,dif_pos y]
  split
  ·rename_i e
   subst e;have:vars[vars.idxOf n]=n:=List.getElem_idxOf y;unfold jv;rw [this,D6 J]; rfl
  ·rename_i e
   have I:n ≠ vars[i]:=fun U=>e (by rw [U]; exact (List.Nodup.idxOf_getElem hv.once i y).symm)
   unfold jv;rw [BU I]
 ·rw [dif_neg y,dif_neg y]
  split
  ·omega
  ·rfl
section
variable {vars:List ByteArray} {b:Bd} {blk o:Nat} {w:World}
theorem D.iJ.keep {w':World} (h:iJ vars b blk o w) (e:w'.heap[blk]? = w.heap[blk]?):iJ vars b blk o w':=
 ⟨fun i y=>(World.cell?_of_block e).trans (h.wd i y),fun i y=>by obtain ⟨z,h1,I⟩:=h.bd i y; exact ⟨z,(World.cell?_of_block e).trans h1,I⟩,(World.cell?_of_block e).trans h.ct,fun i y=>(World.frozen?_of_block e).trans (h.fz i y)⟩
theorem D.iJ.lt (h:iJ vars b blk o w):blk < w.heap.size:=lt_of_cell h.ct
theorem D.kF (w:World) (b o:Nat) (v:Value) {u:Value} (h:w.cell? ⟨b,o,none⟩=some u) (q:Nat):(w.setCell ⟨b,o,none⟩ v).cell? ⟨b,q,none⟩=if q=o then some v else w.cell? ⟨b,q,none⟩:=by
 split
 ·rename_i e; subst e; exact World.cell?_setCell_same _ _ _ h
 ·rename_i e; exact World.cell?_setCell_other _ _ _ _ (fun y=>e (by injection y with _ e3 _; exact e3.symm))
theorem D.iJ.bind (hv:jU vars) (h:iJ vars b blk o w) (hb:jT vars b) {n v:ByteArray} (hn:n ∈ vars) (hg:gq b n=none):
  iJ vars (b ++ [(n,v)]) blk o (((w.setCell ⟨blk,o+vars.idxOf n,none⟩ (.string v)).setCell ⟨blk,o+12+b.length,none⟩ (.int .i64 (vars.idxOf n:Nat))).setCell ⟨blk,o+24,none⟩ (.int .i64 ((b ++ [(n,v)]).length:Nat))):=by
 have hl:=hb.lt hn hg;have hf:=hv.few;have hi:=List.idxOf_lt_length_of_mem hn;obtain ⟨z0,U,_⟩:=h.bd b.length (by omega);have c1:=D.kF w blk (o+vars.idxOf n) (.string v) (h.wd _ (by omega));have c2:=D.kF (w.setCell ⟨blk,o+vars.idxOf n,none⟩ (.string v)) blk (o+12+b.length) (.int .i64 (vars.idxOf n:Nat)) (u:=.int .i64 z0) (by rw [c1,if_neg (by omega)]; exact U)
 have c3:=D.kF ((w.setCell ⟨blk,o+vars.idxOf n,none⟩ (.string v)).setCell ⟨blk,o+12+b.length,none⟩ (.int .i64 (vars.idxOf n:Nat))) blk (o+24) (.int .i64 ((b ++ [(n,v)]).length:Nat)) (u:=.int .i64 b.length)
  (by rw [c2,if_neg (by omega),c1,if_neg (by omega)]; exact h.ct)
 refine ⟨fun i y=>?_,fun i y=>?_,?_,fun i y=>?_⟩
 ·rw [c3,if_neg (by omega),c2,if_neg (by omega),c1,Ld hv hn hg]
  by_cases e:i=vars.idxOf n
  ·rw [if_pos (by omega),if_pos e]
  ·rw [if_neg (by omega),if_neg e]; exact h.wd i y
 ·rw [c3,if_neg (by omega),c2]
  by_cases e:i=b.length
  ·subst e
   rw [if_pos rfl];exact ⟨_,rfl,fun J=>by simp⟩
  ·rw [if_neg (by omega),c1,if_neg (by omega)]
   obtain ⟨z,h1,h2⟩:=h.bd i y;refine ⟨z,h1,fun J=>?_⟩;have I:i < b.length:=by simp at J; omega
   rw [h2 I,List.getElem_append_left I]
 ·rw [c3,if_pos rfl]
 ·simp only [World.frozen?_setCell]
  exact h.fz i y
theorem D.iJ.unbind (hv:jU vars) {n v:ByteArray} (h:iJ vars (b ++ [(n,v)]) blk o w) (hb:jT vars (b ++ [(n,v)])):
  iJ vars b blk o ((w.setCell ⟨blk,o+24,none⟩ (.int .i64 (b.length:Nat))).setCell ⟨blk,o+vars.idxOf n,none⟩ (.string ⟨#[]⟩)):=by
 obtain ⟨I,hn,J⟩:=hb.init;have hf:=hv.few;have U:=List.idxOf_lt_length_of_mem hn;dsimp only at hn J U;have c1:=D.kF w blk (o+24) (.int .i64 (b.length:Nat)) h.ct;have c2:=D.kF (w.setCell ⟨blk,o+24,none⟩ (.int .i64 (b.length:Nat))) blk (o+vars.idxOf n) (.string ⟨#[]⟩) (by rw [c1,if_neg (by omega)]; exact h.wd _ (by omega));refine ⟨fun i y=>?_,fun i y=>?_,?_,fun i y=>?_⟩
 ·rw [c2]
  by_cases e:i=vars.idxOf n
  ·rw [if_pos (by omega)]
   subst e;unfold IV;rw [dif_pos U];have:vars[vars.idxOf n]=n:=List.getElem_idxOf U;rw [this,(I.qF n).2 J]
  ·rw [if_neg (by omega),c1,if_neg (by omega),h.wd i y,Ld hv hn J,if_neg e]
 ·rw [c2,if_neg (by omega),c1,if_neg (by omega)]
  obtain ⟨z,h1,h2⟩:=h.bd i y;refine ⟨z,h1,fun a0=>?_⟩;rw [h2 (by simp; omega),List.getElem_append_left a0]
 ·rw [c2,if_neg (by omega),c1,if_pos rfl]
 ·simp only [World.frozen?_setCell]
  exact h.fz i y
end
structure D.dG (blk o:Nat) (w w':World):Prop where
 grow:w.grownBy w' (some blk)
 rest:∀ q,(q < o∨o+25≤q)→w'.cell? ⟨blk,q,none⟩=w.cell? ⟨blk,q,none⟩
section
variable {blk o:Nat} {w w' w2:World}
theorem D.dG.refl (blk o:Nat) (w:World):dG blk o w w:=⟨⟨rfl,rfl,rfl,ν,fun _ _ _=>rfl⟩,fun _ _=>rfl⟩
theorem D.dG.trans (h:dG blk o w w') (k:dG blk o w' w2):dG blk o w w2:=
 ⟨⟨k.grow.os.trans h.grow.os,k.grow.tape.trans h.grow.tape,k.grow.output.trans h.grow.output,τ h.grow.size k.grow.size,fun i I y=>(k.grow.block i (κ I h.grow.size) y).trans (h.grow.block i I y)⟩,
  fun q hq=>(k.rest q hq).trans (h.rest q hq)⟩
theorem D.dG.of_below (h:Below w.heap.size w w') (hb:blk < w.heap.size):dG blk o w w':=
 ⟨⟨h.os,h.tape,h.output,h.size,fun i y _=>h.block i y⟩,fun q _=>World.cell?_of_block (h.block _ hb)⟩
theorem D.dG.put (w:World) (i:Nat) (I:i < 25) (v:Value):dG blk o w (w.setCell ⟨blk,o+i,none⟩ v):=
 ⟨⟨rfl,rfl,rfl,by simp [World.setCell],fun k _ y=>π _ _ _ _ (fun e=>y (by rw [e]))⟩,
  fun q hq=>World.cell?_setCell_other _ _ _ _ (fun e=>by injection e with _ e2 _; omega)⟩
theorem D.dG.keep {α:Type} {R:Rel α} (g:Good R) {cs:List Value} {x:α} {bs:List Nat} (h:dG blk o w w') (hr:R w cs x bs) (hb:blk ∉ bs):R w' cs x bs:=
 g.keep hr fun b y=>h.grow.block b (g.lt hr b y) (fun e=>hb (by injection e with e; rw [← e]; exact y))
theorem D.dG.block (h:dG blk o w w') {b:Nat} (hb:b < w.heap.size) (y:b ≠ blk):w'.heap[b]? = w.heap[b]?:=h.grow.block b hb (fun e=>y (by injection e))
end
theorem D.Lh {vars:List ByteArray} {b:Bd} (hb:jT vars b) (t f:T) (I fs:List T) (hc:t.var=false→t.name ≠ ⟨#[]⟩):
  cZ (t :: I) (f :: fs) b=if (dK b t).name=⟨#[]⟩ then cZ I fs (b ++ [(t.name,f.name)]) else if (dK b t).name=f.name then cZ I fs b else (b,false):=by
 obtain ⟨U,y⟩:=t;rw [cZ];unfold dK;cases U
 ·simp only [Bool.false_eq_true,if_false]
  rw [if_neg (hc rfl)]
 ·simp only [if_true]
  cases hg:gq b y with
  | none=>
   have:jv b y=⟨#[]⟩:=(hb.qF y).2 hg;rw [if_pos this]
  | some v=>
   have e:jv b y=v:=by unfold jv; rw [hg]; rfl
   have J:v ≠ ⟨#[]⟩:=hb.full _ (yD hg);simp only [e];rw [if_neg J]
theorem D.OD {vars:List ByteArray} {b:Bd} (hb:jT vars b) {t:T} (hc:t.var=false→t.name ≠ ⟨#[]⟩) (h:(dK b t).name=⟨#[]⟩):t.var=true∧gq b t.name=none:=by
 unfold dK at h;cases hv:t.var
 ·simp [hv] at h; exact absurd h (hc hv)
 ·simp [hv] at h; exact ⟨rfl,(hb.qF _).1 h⟩
def D.behind (xs:List A) (c:Ch):List A:=kT (bZ xs c.goes) c.comes
def D.SG (xs:List A) (c:Ch):List A:=if (aU xs && dX c)=true then (if (behind xs c).length≤300 then behind xs c else []) else []
theorem D.QW (L ys:List A) (k:Nat) (h:k < ys.length):kT L (ys.take (k+1))=eF (kT L (ys.take k)) ys[k]:=by
 unfold kT; rw [ρ h,List.foldl_append]; rfl
theorem D.iR {c:Ch} (h:dX c=true):aU c.comes=true∧aU c.goes=true:=by
 unfold dX at h; simp only [ο] at h; exact ⟨h.1.1,h.1.2⟩
theorem D.OE {xs:List A} (c:Ch) (h:fU xs=true):fU (behind xs c)=true:=xI (xH h)
theorem D.D7 {xs:List A} {c:Ch} {x:A} (h:x ∈ behind xs c):x ∈ xs∨x ∈ c.comes:=(CS h).imp sS id
theorem D.OG (xs:List A) (c:Ch):(behind xs c).length≤xs.length+c.comes.length:=by
 have h1:=sU c.comes (bZ xs c.goes);have y:(bZ xs c.goes).length≤xs.length:=List.length_filter_le _ _;unfold behind; omega
theorem D.Ir {xs:List A} {c:Ch} (h:aU xs=true) (hc:dX c=true):∀ x ∈ behind xs c,dN x=true:=fun x y=>
 (D7 y).elim (jE h x) (jE (iR hc).1 x)
theorem D.yE {xs:List A} {c:Ch} (h:aU xs=true) (hc:dX c=true):dw (fZ xs c.goes) c.comes=behind xs c:=by
 rw [wB (dQ h) (dQ (iR hc).2)];exact NE (xH (dQ h)) (dQ (iR hc).1) (fun x y=>jE h x (sS y)) (jE (iR hc).1)
theorem D.D8 {xs:List A} {c:Ch} (h:DU xs) (hc:DU c.comes):(behind xs c).length≤2000000∧∀ x ∈ behind xs c,x.args.length≤16777216:=
 ⟨by have:=OG xs c; have:=h.1; have:=hc.1; omega,fun x y=>(D7 y).elim (h.2 x) (hc.2 x)⟩
end
end Go.Proofs.YtkjinanbccloeaaGreatDoor
