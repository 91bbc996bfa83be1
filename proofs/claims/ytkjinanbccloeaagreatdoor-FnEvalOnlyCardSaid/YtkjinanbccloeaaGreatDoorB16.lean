/- Of the proof of FnEvalOnly: DrawB, Draw2F, MapT, MapR, SortI, QryQ. -/
import Derived.Test.YtkjinanbccloeaaGreatDoorB11
import Derived.Test.YtkjinanbccloeaaGreatDoorB12
import Derived.Test.YtkjinanbccloeaaGreatDoorB13
set_option linter.unusedVariables false
set_option maxHeartbeats 2000000
set_option maxRecDepth 100000
namespace Go.Proofs.YtkjinanbccloeaaGreatDoor
section
open Go.RowKit D
attribute [local go_sem ↓] Go.wp_at_zero Go.wp_at_succ
theorem FU:(Tryz.prog.info? 42).map (fun i=>(i.zero,i.size,i.bytes))=some (some (.agg #[.bool false,.string ⟨#[]⟩,.slice none 0 0]),3,48):=by kernel_rfl
def D.Wi (p:Pt):Prop:=Sm p.atom.name∧p.atom.args.length≤4∧∀ t ∈ p.atom.args,Sm t.name
structure jQ (g p:Nat) (w:World) (xs:List Pt) (v:Value) (wr:World):Prop where
 coll:∃ L bs,aZ 3 nT w.heap.size 42 wr v L xs bs∧∀ b ∈ bs,w.heap.size≤b
 small:∀ x ∈ xs,Wi x
 rdr:kH g p wr
 kept:aH [g] w wr
 glt:g < w.heap.size
section
variable {g p:Nat} {w:World} {xs:List Pt} {v:Value} {wr:World}
theorem jQ.call {p2:Nat} {y:World} (h:jQ g p w xs v wr) (U:kH g p2 y) (hK:aH [g] wr y):jQ g p2 w xs v y:=by
 obtain ⟨L,bs,J,I⟩:=h.coll;exact ⟨⟨L,bs,J.Om jd hK h.glt (GY h.rdr.Xq J.row),I⟩,h.small,U,h.kept.trans hK,h.glt⟩
theorem jQ.below {I:World} (h:jQ g p w xs v wr) (hB:Below wr.heap.size wr I):jQ g p w xs v I:=by
 obtain ⟨L,bs,J,y⟩:=h.coll;exact ⟨⟨L,bs,J.below jd hB,y⟩,h.small,h.rdr.below hB,h.kept.fM hB h.kept.size,h.glt⟩
theorem jQ.parts (h:jQ g p w xs v wr):∃ bs,gW wr [v] xs bs∧∀ b ∈ bs,w.heap.size≤b:=by
 obtain ⟨L,bs,I,y⟩:=h.coll;obtain ⟨J,U,h2⟩:=I.slice;exact ⟨J,U,fun b hb=>(h2 b hb).elim id (y b)⟩
theorem jQ.shape (h:jQ g p w xs v wr):∃ A c,v=.slice A xs.length c:=by
 obtain ⟨L,bs,y,_⟩:=h.coll;exact fE y.own
theorem jQ.part {a:A} {y:Option Addr} {c2:Nat} {I:List Nat} {N pN:Nat} (h:jQ g p w xs v wr) {wN:World} (hN:jQ g pN w xs v wN) (a4:wN.heap.size=N) (U:aG wr [.string a.name,.slice y a.args.length c2] a I) (hf:∀ b ∈ I,N≤b) (no:Bool):
  ∃ L bs,aZ 3 nT w.heap.size 42 (wr.alloc (.cells #[.bool no,.string a.name,.slice y a.args.length c2] 42)) v L xs bs∧(∀ b ∈ bs ++ I,w.heap.size≤b)∧aQ 3 nT (wr.alloc (.cells #[.bool no,.string a.name,.slice y a.args.length c2] 42)) [.bool no,.string a.name,.slice y a.args.length c2] [⟨no,a⟩] I∧
   Lies (wr.alloc (.cells #[.bool no,.string a.name,.slice y a.args.length c2] 42)) (some ⟨wr.heap.size,0,none⟩) [.bool no,.string a.name,.slice y a.args.length c2]∧(∀ b ∈ I,v.ownBlock ≠ some b)∧Below w.heap.size wr (wr.alloc (.cells #[.bool no,.string a.name,.slice y a.args.length c2] 42)):=by
 obtain ⟨L,bs,hC,a0⟩:=h.coll;obtain ⟨L',bs',a1,_⟩:=hN.coll;have hA:Below wr.heap.size wr (wr.alloc (.cells #[.bool no,.string a.name,.slice y a.args.length c2] 42)):=ζ;obtain ⟨s,J,a2,a3⟩:=aj.below U hA;simp only [List.cons.injEq,and_true,true_and] at J;subst J;exact ⟨L,bs,hC.below jd hA,fun b hb=>(μ.1 hb).elim (a0 b) (fun hb=>by have:=hf b hb; have:=hN.kept.size; omega),aQ.dh AQ ⟨_,rfl,a2,a3⟩,aS (ω _ _),fun b hb=>jM a1.own (by have:=hf b hb; omega),ϑ.alloc h.kept.size _⟩
theorem jQ.app {J:World} {v4:Value} {L4:List Value} {I:List Nat} {y:Pt} (h:jQ g p w xs v wr) (hC:aZ 3 nT w.heap.size 42 J v4 L4 (xs ++ [y]) I) (U:∀ b ∈ I,w.heap.size≤b) (hB:Below w.heap.size wr J) (hy:Wi y):jQ g p w (xs ++ [y]) v4 J:=
 ⟨⟨L4,I,hC,U⟩,fun x hx=>(μ.1 hx).elim (h.small x) (fun hx=>by rw [List.mem_singleton.1 hx]; exact hy),h.rdr.fM hB h.glt,h.kept.fM hB ν,h.glt⟩
end
def Xt (k m g p q:Nat) (w:World) (e:Ending) (w':World):Prop:=
 ∃ (xs:List Pt) (v:Value) (y:Nat),e=.returned v∧k≤xs.length∧xs.length≤m∧y≤p+q∧jQ g y w xs v w'
theorem zk (g p:Nat) (ws:List ByteArray) (n b:Nat) (w:World) (h:kH g p w) (hb:w.heap[b]? = some (.cells (ws.map Value.string).toArray 9 (0,0))) (aR:g ≠ b) (hp:p≤700000) (hn:ws.length=n) (h1:1≤n) (h2:n≤100) (hs:∀ s ∈ ws,Sm s):
  Calls Tryz.prog 158 #[.pointer (some ⟨g,0,none⟩),.slice (some ⟨b,0,none⟩) n n] w (Xt 1 3 g p 25 w):=by
 obtain ⟨i0,hi,b1,b2,b5⟩:=info_parts FU;have hA:Below w.heap.size w (w.alloc (.cells #[] 42)):=ζ;have HF:Hid (jQ g p w [] (.slice (some ⟨w.heap.size,0,none⟩) 0 0) (w.alloc (.cells #[] 42))):=η ⟨⟨_,_,aZ.empty (ω w _) ν,fun b hb=>by simp at hb⟩,fun a ha=>by simp at ha,h.below hA,aH.of_below hA,h.lt⟩;have av:=pick_any g p 3 _ HF.out.rdr (by omega) (by omega) (by omega);have HP:=η hp;have b6:=η hb;have a0:=fun p' w' hR bn bo=>SS g p' ws n b w' hR bn aR bo hn h1 h2 hs
 have b7:=η a0;have b8:=η aR;clear h hp hA hb aR hn h1 h2 hs a0
 go_enter Tryz.func158,Tryz.ntmps158
 go_wp2_with fail
 refine av.mono ?_;rintro e w1 ⟨m,rfl,hm,bf,bg⟩;have bh:=η (HF.out.call bf (aH.dM bg));have HN:Hid (m < 3):=η (by omega);have bp:(m:Int) < 3:=hm;clear av bf bg HF hm;go_wp2
 go_loopw [5,6] (fun v i wr=>∃ (k:Nat) (xs:List Pt) (Av:Option Addr) (cp p':Nat),i=.int .i64 k∧v=.slice Av xs.length cp∧xs.length+k=m+1∧p'+8 * k≤p+1+8 * (m+1)∧jQ g p' w xs (.slice Av xs.length cp) wr) (fun _ i _=>(intOf i).toNat)
 case atStart=>exact ⟨m+1,[],_,_,p+1,by congr 1; omega,rfl,by simp,by omega,bh.out⟩
 case round=>
  obtain ⟨k,xs,Av,cp,p',rfl,rfl,hk,hp,hF⟩:=hrel;have b9:=η hF;have HX:Hid (xs.length+k=m+1∧p'+8 * k≤p+1+8 * (m+1)):=η ⟨hk,hp⟩;have HQ:Hid (p'≤800000∧k≤3∧xs.length≤3):=η (by have:=HP.out; have:=HN.out; omega);clear hF bh hk hp bp;by_cases bc:0 < k
  ·have br:(0:Int) < (k:Int):=by omega
   have bt:(k:Int)≤3:=by have:=HQ.out.2.1; omega
   have HK:=η bc;have av:=pick_any g p' 6 wr b9.out.rdr (by have:=HQ.out; omega) (by omega) (by omega);clear bc
   go_wp2_with fail
   refine av.mono ?_;rintro e w2 ⟨m6,rfl,bq,bi,bj⟩;have a5:=η (b9.out.call bi (aH.dM bj));clear av bi bj bq;by_cases hz:m6=0
   ·subst hz
    by_cases bu:0 < xs.length
    ·have bk:(0:Int) < (xs.length:Int):=by omega
     have a0:=b7.out (p'+1) w2 a5.out.rdr (a5.out.kept.blk b6.out (by simp; exact fun e=>b8.out e.symm)) (by have:=HQ.out.1; omega)
     go_wp2_with fail
     refine a0.mono ?_;rintro e w3 ⟨s,rfl,hs,a1,a6⟩;have a7:=η (a5.out.call a1 a6);have a8:=mX s true g (p'+1+1) w3 a1 (by have:=HQ.out.1; omega) hs;clear a0 a1 a6 hs
     go_wp2_with fail
     refine a8.mono ?_;rintro e w4 ⟨a,v4,L4,p4,rfl,a2,a9,a3,aa,aw,ab,I⟩;obtain ⟨b4,J,y⟩:=a3.slice;obtain ⟨A4,c4,rfl⟩:=fE a3.own;have a4:=η (a7.out.call aa ab);have ac:Hid (Wi ⟨true,a⟩∧p4≤p'+8):=η ⟨⟨a2,Nat.le_succ_of_le a9,I⟩,by omega⟩;obtain ⟨L5,bl,ae,U,af,ag,am,ao⟩:=a4.out.part a7.out rfl ⟨_,rfl,Sm.max a2,J⟩ (fun b hb=>(y b hb).resolve_right (by simp)) (true);have HY:=η (ι ae (ι U (ι af (ι ag (ι am ao)))));have ap:Hid (xs.length+1≤maxLen∧(xs.length+1) * 48≤140737488355328):=η (by have:=HQ.out; unfold maxLen; omega);clear a8 a2 a9 a3 aa aw ab I J y ae U af ag am ao;have az:Hid (w.heap.size≤(w4.alloc (.cells #[.bool true,.string a.name,.slice A4 a.args.length c4] 42)).heap.size):=η (by have:=a4.out.kept.size; simp; omega)
     go_wp2_with (at_builtin; refine bW rfl _ _ _ rfl w.heap.size 42 i0 (.agg #[.bool false,.string ⟨#[]⟩,.slice none 0 0]) 3 48 Tryz.underlying38 hi b1 b2 b5 rfl (by omega) jd (.slice Av xs.length cp) xs.length _ _ _ rfl HY.out.1 rfl (some ⟨w4.heap.size,0,none⟩) 1 1 _ [⟨true,a⟩] _ rfl HY.out.2.2.1 rfl HY.out.2.2.2.1 HY.out.2.2.2.2.1 ap.out.1 ap.out.2 w4 w.heap.size HY.out.2.2.2.2.2 ν az.out ?_; intro A6 aD w6 aq ar aE aL)
     have aM:=η (a4.out.app aq HY.out.2.1 ar ac.out.1);clear aq ar aE aL HY;go_wp2;go_roundw
     case rel=>exact ⟨k - 1,xs ++ [⟨true,a⟩],A6,aD,p4,by have:=HK.out; first | (unfold wrap64; congr 1; omega) | go_num,by rw [χ]; rfl,by rw [χ]; have:=HX.out; have:=HK.out; simp; omega,by have:=HX.out; have:=HK.out; have:=ac.out.2; omega,by rw [χ]; exact aM.out⟩
     case measure=>have:=HK.out; simp [intOf]; omega
    ·have bk:¬ (0:Int) < (xs.length:Int):=by omega
     have a0:=b7.out (p'+1) w2 a5.out.rdr (a5.out.kept.blk b6.out (by simp; exact fun e=>b8.out e.symm)) (by have:=HQ.out.1; omega)
     go_wp2_with fail
     refine a0.mono ?_;rintro e w3 ⟨s,rfl,hs,a1,a6⟩;have a7:=η (a5.out.call a1 a6);have a8:=mX s true g (p'+1+1) w3 a1 (by have:=HQ.out.1; omega) hs;clear a0 a1 a6 hs
     go_wp2_with fail
     refine a8.mono ?_;rintro e w4 ⟨a,v4,L4,p4,rfl,a2,a9,a3,aa,aw,ab,I⟩;obtain ⟨b4,J,y⟩:=a3.slice;obtain ⟨A4,c4,rfl⟩:=fE a3.own;have a4:=η (a7.out.call aa ab);have ac:Hid (Wi ⟨false,a⟩∧p4≤p'+8):=η ⟨⟨a2,Nat.le_succ_of_le a9,I⟩,by omega⟩;obtain ⟨L5,bl,ae,U,af,ag,am,ao⟩:=a4.out.part a7.out rfl ⟨_,rfl,Sm.max a2,J⟩ (fun b hb=>(y b hb).resolve_right (by simp)) (false);have HY:=η (ι ae (ι U (ι af (ι ag (ι am ao)))));have ap:Hid (xs.length+1≤maxLen∧(xs.length+1) * 48≤140737488355328):=η (by have:=HQ.out; unfold maxLen; omega);clear a8 a2 a9 a3 aa aw ab I J y ae U af ag am ao;have az:Hid (w.heap.size≤(w4.alloc (.cells #[.bool false,.string a.name,.slice A4 a.args.length c4] 42)).heap.size):=η (by have:=a4.out.kept.size; simp; omega)
     go_wp2_with (at_builtin; refine bW rfl _ _ _ rfl w.heap.size 42 i0 (.agg #[.bool false,.string ⟨#[]⟩,.slice none 0 0]) 3 48 Tryz.underlying38 hi b1 b2 b5 rfl (by omega) jd (.slice Av xs.length cp) xs.length _ _ _ rfl HY.out.1 rfl (some ⟨w4.heap.size,0,none⟩) 1 1 _ [⟨false,a⟩] _ rfl HY.out.2.2.1 rfl HY.out.2.2.2.1 HY.out.2.2.2.2.1 ap.out.1 ap.out.2 w4 w.heap.size HY.out.2.2.2.2.2 ν az.out ?_; intro A6 aD w6 aq ar aE aL)
     have aM:=η (a4.out.app aq HY.out.2.1 ar ac.out.1);clear aq ar aE aL HY;go_wp2;go_roundw
     case rel=>exact ⟨k - 1,xs ++ [⟨false,a⟩],A6,aD,p4,by have:=HK.out; first | (unfold wrap64; congr 1; omega) | go_num,by rw [χ]; rfl,by rw [χ]; have:=HX.out; have:=HK.out; simp; omega,by have:=HX.out; have:=HK.out; have:=ac.out.2; omega,by rw [χ]; exact aM.out⟩
     case measure=>have:=HK.out; simp [intOf]; omega
   ·have bv:¬ (m6:Int)=0:=by omega
    have a0:=b7.out (p'+1) w2 a5.out.rdr (a5.out.kept.blk b6.out (by simp; exact fun e=>b8.out e.symm)) (by have:=HQ.out.1; omega)
    go_wp2_with fail
    refine a0.mono ?_;rintro e w3 ⟨s,rfl,hs,a1,a6⟩;have a7:=η (a5.out.call a1 a6);have a8:=mX s true g (p'+1+1) w3 a1 (by have:=HQ.out.1; omega) hs;clear a0 a1 a6 hs
    go_wp2_with fail
    refine a8.mono ?_;rintro e w4 ⟨a,v4,L4,p4,rfl,a2,a9,a3,aa,aw,ab,I⟩;obtain ⟨b4,J,y⟩:=a3.slice;obtain ⟨A4,c4,rfl⟩:=fE a3.own;have a4:=η (a7.out.call aa ab);have ac:Hid (Wi ⟨false,a⟩∧p4≤p'+8):=η ⟨⟨a2,Nat.le_succ_of_le a9,I⟩,by omega⟩;obtain ⟨L5,bl,ae,U,af,ag,am,ao⟩:=a4.out.part a7.out rfl ⟨_,rfl,Sm.max a2,J⟩ (fun b hb=>(y b hb).resolve_right (by simp)) (false);have HY:=η (ι ae (ι U (ι af (ι ag (ι am ao)))));have ap:Hid (xs.length+1≤maxLen∧(xs.length+1) * 48≤140737488355328):=η (by have:=HQ.out; unfold maxLen; omega);clear a8 a2 a9 a3 aa aw ab I J y ae U af ag am ao;have az:Hid (w.heap.size≤(w4.alloc (.cells #[.bool false,.string a.name,.slice A4 a.args.length c4] 42)).heap.size):=η (by have:=a4.out.kept.size; simp; omega)
    go_wp2_with (at_builtin; refine bW rfl _ _ _ rfl w.heap.size 42 i0 (.agg #[.bool false,.string ⟨#[]⟩,.slice none 0 0]) 3 48 Tryz.underlying38 hi b1 b2 b5 rfl (by omega) jd (.slice Av xs.length cp) xs.length _ _ _ rfl HY.out.1 rfl (some ⟨w4.heap.size,0,none⟩) 1 1 _ [⟨false,a⟩] _ rfl HY.out.2.2.1 rfl HY.out.2.2.2.1 HY.out.2.2.2.2.1 ap.out.1 ap.out.2 w4 w.heap.size HY.out.2.2.2.2.2 ν az.out ?_; intro A6 aD w6 aq ar aE aL)
    have aM:=η (a4.out.app aq HY.out.2.1 ar ac.out.1);clear aq ar aE aL HY;go_wp2;go_roundw
    case rel=>exact ⟨k - 1,xs ++ [⟨false,a⟩],A6,aD,p4,by have:=HK.out; first | (unfold wrap64; congr 1; omega) | go_num,by rw [χ]; rfl,by rw [χ]; have:=HX.out; have:=HK.out; simp; omega,by have:=HX.out; have:=HK.out; have:=ac.out.2; omega,by rw [χ]; exact aM.out⟩
    case measure=>have:=HK.out; simp [intOf]; omega
  ·obtain rfl:k=0:=by omega
   clear bc;go_wp2;go_ret;exact ⟨xs,_,p',rfl,by have:=HX.out; omega,by have:=HX.out; have:=HN.out; omega,by have:=HX.out; have:=HN.out; omega,b9.out⟩
theorem zl (g p:Nat) (w:World) (h:kH g p w) (hp:p≤800000):
  Calls Tryz.prog 160 #[.pointer (some ⟨g,0,none⟩)] w (Jm 3 g p 7 w):=by
 have hA:Below w.heap.size w (w.alloc (.cells #[.string ⟨#[]⟩,.slice none 0 0] 33)):=ζ;have ho:=pW g p [⟨#[101]⟩,⟨#[101]⟩,⟨#[101]⟩,⟨#[112]⟩,⟨#[112]⟩,⟨#[113]⟩,⟨#[122]⟩,⟨#[104]⟩] 8 (w.alloc (.cells #[.string ⟨#[]⟩,.slice none 0 0] 33)) (h.below hA) (by omega) rfl (by decide) (by decide) (by decide);rw [World.size_alloc] at ho;have hg:=h.lt;have y:=η (ω w (.cells #[.string ⟨#[]⟩,.slice none 0 0] 33));have a1:=η hp;clear h hp
 go_enter Tryz.func160,Tryz.ntmps160
 go_wp2_with fail
 refine ho.mono ?_;rintro e w1 ⟨s,rfl,hs,hR,hK⟩;replace y:=η (hK.blk y.out (by simp; omega));have HK:=η ((aH.of_below hA (bs:=[g])).trans hK);have J:=Jq s false g (p+1) w1 hR (by have:=a1.out; omega) hs;clear ho hK hR hA
 go_wp2_with fail
 refine J.mono ?_;rintro e w2 ⟨a,v,L,p',rfl,U,hx,hC,a0,a2,I⟩;replace y:=η (I.blk y.out (by simp; omega));have z0:=ai (o:=0) y.out;have z1:=ai (o:=1) y.out;have f0:=ax (o:=0) y.out;have f1:=ax (o:=1) y.out;simp only [List.getElem?_toArray,List.getElem?_cons_zero,List.getElem?_cons_succ] at z0 z1;obtain ⟨Av,cv,rfl⟩:=fE hC.own;have HD:=η (JB (k:=3) (p0:=p) (q:=7) y.out ν hC HK.out.size a0 (HK.out.trans I) hg U hx (by omega));clear J hC a0 I U hx a2 hs;go_wp2;refine bodyPost_ret (v:=.agg #[.string a.name,.slice Av a.args.length cv]) (by simp [results,Tryz.results160,go_sem,z0,z1]) rfl HD.out
end
section
open Go.RowKit Go.ChangeMaps Go.MapKept D
def D.iT (b:Nat) (w:World):Prop:=∃ es y,w.heap[b]? = some (.map es y)∧(∀ x ∈ es.toList,x.born < y)∧(es.toList.map (·.born)).Nodup
theorem D.iT.same {b:Nat} {w w':World} (h:iT b w) (e:w'.heap[b]? = w.heap[b]?):iT b w':=by
 obtain ⟨es,y,h1,I⟩:=h;exact ⟨es,y,e.trans h1,I⟩
theorem D.iT.push {b J:Nat} {es:Array MapEntry} {w:World} (hb:w.heap[b]? = some (.map es J)) (k v:Value) (h:iT b w):iT b (setBlock w b (.map (es.push ⟨k,v,J⟩) (J+1))):=by
 obtain ⟨a0,a1,h1,U,h3⟩:=h;rw [hb] at h1;cases h1;refine ⟨_,_,heap_setBlock_same hb _,fun x I=>?_,?_⟩
 ·rw [Array.toList_push] at I
  rcases μ.1 I with I | I
  ·exact Nat.lt_succ_of_lt (U x I)
  ·rw [List.mem_singleton.1 I]; exact Nat.lt_succ_self _
 ·rw [Array.toList_push,List.map_append]
  refine List.nodup_append.2 ⟨h3,by simp,fun x I y hy e=>?_⟩;obtain ⟨z,hz,rfl⟩:=List.mem_map.1 I;simp at hy;have:=U z hz;omega
theorem D.iT.modify {b I i:Nat} {es:Array MapEntry} {w:World} (hb:w.heap[b]? = some (.map es I)) (k v:Value) (h:iT b w):iT b (setBlock w b (.map (es.modify i fun e=>{ e with key:=k,val:=v }) I)):=by
 obtain ⟨a0,a1,h1,J,h3⟩:=h;rw [hb] at h1;cases h1
 have U:((es.modify i fun e=>{ e with key:=k,val:=v }).toList.map (·.born))=es.toList.map (·.born):=by
  apply List.ext_getElem
  ·simp
  ·intro j h1 J
   simp only [List.getElem_map,Array.toList_modify,List.getElem_modify]
   split <;> rfl
 refine ⟨_,_,heap_setBlock_same hb _,fun x hx=>?_,by rw [U]; exact h3⟩;have:x.born ∈ es.toList.map (·.born):=by rw [← U]; exact List.mem_map.2 ⟨x,hx,rfl⟩
 obtain ⟨y,hy,e⟩:=List.mem_map.1 this;rw [← e];exact J y hy
theorem D.iT.made (w:World):iT w.heap.size (w.alloc (.map #[] 0)):=⟨#[],0,(MapKept.heap_alloc w _).1,fun x h=>by simp at h,by simp⟩
theorem qg {P:Program} {kt:TypeId} {W:World→Prop} {S:Value→Prop} (hK:GN P kt W S) {w:World} (hW:W w) {t e:TypeId} (ht:P.underlying t=some (.map kt e)) {b:Nat} {L:List (Value × Value)} {k:Value} (v:Value) (h:gm S b L w) (I:S k) (hk:∀ p ∈ L,p.1 ≠ k):
  ∃ w',(Instr.mapUpdate t (.map (some b)) k v).run P w=.ok () w'∧gm S b (L ++ [(k,v)]) w'∧w.grownBy w' (some b)∧(iT b w→iT b w'):=by
 obtain ⟨⟨es,ck,hb,rfl⟩,h2,h3⟩:=h;have J:∀ e ∈ es.toList,S e.key:=fun e he=>h2 (e.key,e.val) (List.mem_map.2 ⟨e,he,rfl⟩)
 rcases kC hK hW I es.toList J with ⟨h5,h6⟩ | ⟨i,U,h5,h6,h7⟩
 ·refine ⟨setBlock w b (.map (es.push ⟨k,v,ck⟩) (ck+1)),?_,⟨⟨_,_,heap_setBlock_same hb _,by simp⟩,?_,?_⟩,jF hb _,iT.push hb k v⟩
  ·simp [Instr.mapUpdate,run_underlying ht,MapKept.run_getObj_map hb,hK.check w false I,h5,MapKept.run_setObj_map _ hb,Result.andThen,setBlock]
  ·intro p y
   rcases μ.1 y with y | y
   ·exact h2 p y
   ·rw [List.mem_singleton.1 y]
    exact I
  ·refine List.pairwise_append.2 ⟨h3,List.pairwise_singleton _ _,fun p y q hq=>?_⟩
   rw [List.mem_singleton.1 hq];exact hk p y
 ·exact absurd h7 (hk (U.key,U.val) (List.mem_map.2 ⟨U,List.mem_of_getElem? h6,rfl⟩))
theorem Hq {P:Program} {kt:TypeId} {W:World→Prop} {S:Value→Prop} (hK:GN P kt W S) {w:World} (hW:W w) {t e:TypeId} (ht:P.underlying t=some (.map kt e))
  {b:Nat} {A B:List (Value × Value)} {k u:Value} (v:Value) (h:gm S b (A ++ (k,u) :: B) w):∃ w',(Instr.mapUpdate t (.map (some b)) k v).run P w=.ok () w'∧gm S b (A ++ (k,v) :: B) w'∧w.grownBy w' (some b)∧(iT b w→iT b w'):=by
 obtain ⟨⟨es,ck,hb,hL⟩,h2,h3⟩:=h;have hS:S k:=h2 (k,u) (by simp);have a2:∀ e ∈ es.toList,S e.key:=fun e he=>h2 (e.key,e.val) (hL ▸ List.mem_map.2 ⟨e,he,rfl⟩)
 rcases kC hK hW hS es.toList a2 with ⟨h5,U⟩ | ⟨i,e1,h5,U,h7⟩
 ·have:(k,u) ∈ es.toList.map (fun e=>(e.key,e.val)):=by rw [hL]; simp
  obtain ⟨e0,a3,a0⟩:=List.mem_map.1 this;simp only [Prod.mk.injEq] at a0;exact absurd a0.1 (U e0 a3)
 ·have a4:(A ++ (k,u) :: B)[i]? = some (e1.key,e1.val):=by rw [← hL]; simp [U]
  have a5:i=A.length:=Oo h3 a4 RS (by simp [h7]);subst a5;have hj:es[A.length]? = some e1:=by simpa using U
  have a6:∀ w,(Instr.keyThatStays e1.key k).run P w=.ok k w:=fun w=>by simp [Instr.keyThatStays,h7,hK.same hS]
  have a1:(Instr.mapUpdate t (.map (some b)) k v).run P w=.ok () (setBlock w b (.map (es.modify A.length fun e=>{ e with key:=k,val:=v }) ck)):=by
   have I:=a6 w;rw [h7] at I;simp [Instr.mapUpdate,run_underlying ht,MapKept.run_getObj_map hb,hK.check w false hS,h5,hj,h7,I,MapKept.run_setObj_map _ hb,Result.andThen,setBlock]
  have J:((es.modify A.length (fun e=>{ e with key:=k,val:=v })).toList.map fun e=>(e.key,e.val))=A ++ (k,v) :: B:=by
   rw [Array.toList_modify,ChangeMaps.modify_eq_set _ _ _ _ U,List.map_set,hL];simp
  refine ⟨_,a1,⟨⟨_,_,heap_setBlock_same hb _,J⟩,?_,?_⟩,jF hb _,iT.modify hb k v⟩
  ·intro p y
   rcases μ.1 y with y | y
   ·exact h2 p (by simp [y])
   ·rcases List.mem_cons.1 y with rfl | y
    ·exact hS
    ·exact h2 p (by simp [y])
  ·have:=List.pairwise_append.1 h3
   have h9:=List.pairwise_cons.1 this.2.1;refine List.pairwise_append.2 ⟨this.1,List.pairwise_cons.2 ⟨fun q hq=>h9.1 q hq,h9.2⟩,fun p y q hq=>?_⟩
   rcases List.mem_cons.1 hq with rfl | hq
   ·exact this.2.2 p y (k,u) (by simp)
   ·exact this.2.2 p y q (by simp [hq])
end
section
open Go.RowKit Go.Maps D
theorem D.gI.JV {b n:Nat} {L:List ByteArray} {f:ByteArray→Int} {w:World} (h:gI b n L f w) {s:ByteArray} (J:s.size≤maxLen) {v:Int} (hv:(if s ∈ L then f s else 0)=v):
  (Instr.lookup 116 (.map (some b)) (.string s) false).run Tryz.prog w=.ok (.int .i64 v) w:=by
 obtain ⟨⟨M,h1,h2,U,h4⟩,h5,h6⟩:=h;obtain ⟨d,y,I,hw⟩:=h1.lookup_int CS Tryz.underlying116 Tryz.underlying3 (SV w) (mG J);rw [y]
 have:d=v:=by
  rw [← hv]
  split
  ·rename_i hmem
   have:=h4 s hmem;rw [this] at I;exact x9 I.symm
  ·rename_i hmem
   have h7:has M (qY s)=false:=by rw [U s]; simpa using hmem
   rw [atKey_of_not_has h7] at I;exact x9 I.symm
 rw [this]
end
section
open Go.RowKit Go.Sort D
theorem Hr (xs:List ByteArray) (v:Value) (L:List Value) (base:Nat) (w:World) (hC:aZ 1 jD base 9 w v L xs []) (hl:xs.length≤16777216):
  Calls Tryz.prog 226 #[v] w fun e w'=>∃ (v2:Value) (ys:List ByteArray),e=.returned v2∧ys.map (·.data.toList)=Lib.compact (xs.map (·.data.toList))∧aZ 1 jD base 9 w' v2 (ys.map Value.string) ys []∧w.grownBy w' v.ownBlock:=by
 obtain ⟨rfl,hs,_⟩:=FK hC;have I:=hC.own
 rcases I.2 with ⟨rfl,hx⟩ | ⟨g,cap,a4,rfl,a1,hb,h1,h2,h3,h4⟩
 ·have a2:xs = []:=by simpa using hx
  subst a2;refine (Tryz.slices_Compact_string_empty none 0 w).mono ?_;rintro e w' ⟨rfl,rfl⟩;exact ⟨_,[],rfl,by simp [Lib.compact,Lib.compactUpTo],aZ.nil _,World.grownBy.refl _ _⟩
 ·have J:(xs.map (·.data.toList)).length=xs.length:=by simp
  have hH:Holds encStr w g 0 (xs.map (·.data.toList)).toArray:=holds_of_block hb (by rw [J,Lib.map_encStr]; simpa using h4);have c:=Tryz.slices_Compact_string g 0 cap (xs.map (·.data.toList)) w hH (by omega) (by omega);rw [J] at c;refine c.mono ?_;rintro e w' ⟨rfl,q,rfl⟩;obtain ⟨zs,U⟩:∃ zs,Lib.compact (xs.map (·.data.toList))=zs:=⟨_,rfl⟩;have a3:zs.length≤xs.length:=by rw [← U,← J]; exact Nb _
  rw [U];have y:=Lib.ownsRow_putRow (enc:=encStr) (zs:=xs.map (·.data.toList)) (ys:=zs ++ List.replicate (xs.length - zs.length) []) (q:=q) (k:=zs.length) (by rw [Lib.map_encStr]; exact I) (by simp; omega) a3;rw [List.take_append_of_le_length ν,ϕ ν] at y;have a0:(CU zs).length=zs.length:=by unfold CU; rw [List.length_map]
  rw [← JI,← a0] at y;refine ⟨_,CU zs,rfl,CV _,?_,?_⟩
  ·rw [← a0]
   exact wC y (FM fun b hb=>CW hs b ((yX _ _).1 (by rw [U]; exact hb)))
  ·have:=grownBy_sorted (w:=w) (g:=g) (n:=q) (os:=#[]) (zs ++ List.replicate (xs.length - zs.length) []).toArray
   rw [grow_empty] at this;exact this
end
section
open Go.RowKit D
theorem D.Tf {w w':World} {base e size n:Nat} {v:Value} {L:List Value} (h:w.ownsRow base e size v n L) (I:∀ b,v.ownBlock=some b→w'.heap[b]? = w.heap[b]?):w'.ownsRow base e size v n L:=by
 refine ⟨h.1,?_⟩
 rcases h.2 with J | ⟨g,cap,y,rfl,U,h4,h5⟩
 ·exact .inl J
 ·exact .inr ⟨g,cap,y,rfl,U,(I g (by simp [Value.ownBlock])).trans h4,h5⟩
theorem D.bG {w:World} {base e size n b:Nat} {v:Value} {L:List Value} (h:w.ownsRow base e size v n L) (hb:v.ownBlock=some b):base≤b∧b < w.heap.size:=by
 rcases h.2 with ⟨rfl,_⟩ | ⟨g,cap,y,rfl,I,J,_⟩
 ·simp [Value.ownBlock] at hb
 ·simp [Value.ownBlock] at hb
  subst hb;exact ⟨I,ψ J⟩
theorem D.aZ.lU {α:Type} {n:Nat} {R:Rel α} {base e:Nat} {w w':World} {v:Value} {L:List Value} {xs:List α} {bs:List Nat} (g:Good R) (h:aZ n R base e w v L xs bs)
  (h1:∀ b,v.ownBlock=some b→w'.heap[b]? = w.heap[b]?) (y:∀ b ∈ bs,w'.heap[b]? = w.heap[b]?):aZ n R base e w' v L xs bs:=
 ⟨Tf h.own h1,h.row.keep g y,h.far⟩
theorem D.PU (ps:List Pt) (k:Nat) (h:k < ps.length):fV (ps.take (k+1))=fV (ps.take k) ++ (if ps[k].no then [] else [ps[k].atom]):=by
 unfold fV;rw [ρ h,List.filter_append,List.map_append]
 cases hn:ps[k].no <;> simp [hn]
theorem D.PV (ps:List Pt) (k:Nat) (h:k < ps.length):dL (ps.take (k+1))=dL (ps.take k) ++ (if ps[k].no then [ps[k].atom] else []):=by
 unfold dL;rw [ρ h,List.filter_append,List.map_append]
 cases hn:ps[k].no <;> simp [hn]
structure D.tu (vars:List ByteArray) (w:World) (hz hb B:Nat) (vv:Value) (b3:List Nat) (v1:Value) (L1:List Value) (xs1:List A) (bs1:List Nat) (v2:Value) (L2:List Value) (xs2:List A) (bs2:List Nat) (wr:World):Prop where
 r0:wr.heap[hz]? = some (.cells #[.slice none 0 0,.slice none 0 0,.slice none 0 0] 164 (0,0))
 r1:wr.heap[hb]? = some (.cells #[v1,v2,vv] 164 (0,0))
 h0:w.heap.size≤hz
 h1:hz < hb
 hB:hb < B
 c1:aZ 2 (Ey vars) B 168 wr v1 L1 xs1 bs1
 c2:aZ 2 (Ey vars) B 168 wr v2 L2 xs2 bs2
 k1:∀ b ∈ bs1,B≤b
 k2:∀ b ∈ bs2,B≤b
 f12:∀ b,v1.ownBlock=some b→v2.ownBlock ≠ some b∧b ∉ bs2
 f21:∀ b,v2.ownBlock=some b→b ∉ bs1
 vs:ji wr [vv] vars b3
 kv:∀ b ∈ b3,w.heap.size≤b∧b < hb∧b ≠ hz
 bel:Below w.heap.size w wr
 oC:B≤wr.heap.size
section
variable {vars:List ByteArray} {w:World} {hz hb B:Nat} {vv:Value} {b3:List Nat} {v1:Value} {L1:List Value} {xs1:List A} {bs1:List Nat} {v2:Value} {L2:List Value} {xs2:List A} {bs2:List Nat} {wr:World}
theorem D.tu.later {w' : World} (h : tu vars w hz hb B vv b3 v1 L1 xs1 bs1 v2 L2 xs2 bs2 wr) (y : Below wr.heap.size wr w') : tu vars w hz hb B vv b3 v1 L1 xs1 bs1 v2 L2 xs2 bs2 w' :=
  ⟨(y.block _ (lt_of_block h.r0)).trans h.r0, (y.block _ (lt_of_block h.r1)).trans h.r1, h.h0, h.h1, h.hB, h.c1.below (gV _) y, h.c2.below (gV _) y, h.k1, h.k2, h.f12, h.f21, bV.below h.vs y, h.kv,
    h.bel.trans (y.mono h.bel.size), Nat.le_trans h.oC y.size⟩
theorem D.tu.lit {a:A} {I:Value} {b9:List Nat} {y:World} {v:Value} {L:List Value} {n:Nat} (hk:Below wr.heap.size wr y) (hB:B≤wr.heap.size) (J:wr.ownsRow B 168 2 v n L) (a0:a.name.size≤maxLen) (hp:jS vars y [I] a.args b9) (h9:Value.oneCell' I=true):
  (y.alloc (.cells #[.string a.name,I] 168)).ownsRow B 168 2 v n L∧
   Lies (y.alloc (.cells #[.string a.name,I] 168)) (some ⟨y.heap.size,0,none⟩) [.string a.name,I]∧(∀ u ∈ [.string a.name,I],Value.oneCell' u=true)∧B≤(y.alloc (.cells #[.string a.name,I] 168)).heap.size:=by
 have hA:Below y.heap.size y (y.alloc (.cells #[.string a.name,I] 168)):=ζ;have hb:=hk.trans (hA.mono hk.size);refine ⟨own_below J hb,by have:=aS (ω y (.cells #[.string a.name,I] 168)); simpa using this,fun u U=>?_,τ hB hb.size⟩
 rcases List.mem_cons.1 U with rfl | U
 ·rfl
 ·rw [List.mem_singleton.1 U]; exact h9
theorem D.tu.app1 {a:A} {v9:Value} {b9:List Nat} {J w5:World} {A5:Option Addr} {c5:Nat} (h:tu vars w hz hb B vv b3 v1 L1 xs1 bs1 v2 L2 xs2 bs2 wr) (hk:Below wr.heap.size wr J) (a7:a.name.size≤maxLen) (hp:jS vars J [v9] a.args b9) (hn:New wr.heap.size J b9) (h9:Value.oneCell' v9=true)
  (a5:w5.ownsRow B 168 2 (.slice A5 (xs1.length+1) c5) (xs1.length+1) (L1 ++ [.string a.name,v9])) (hg:(J.alloc (.cells #[.string a.name,v9] 168)).grownBy w5 v1.ownBlock)
  (a2:(Value.slice A5 (xs1.length+1) c5).ownBlock=v1.ownBlock∨(Value.slice A5 (xs1.length+1) c5).ownBlock=some (J.alloc (.cells #[.string a.name,v9] 168)).heap.size):
  w5.cell? ⟨hb,0,none⟩=some v1∧w5.cell? ⟨hb,1,none⟩=some v2∧w5.cell? ⟨hb,2,none⟩=some vv∧w5.frozen? ⟨hb,0,none⟩=false∧
   tu vars w hz hb B vv b3 (.slice A5 (xs1.length+1) c5) (L1 ++ [.string a.name,v9]) (xs1 ++ [a]) (bs1 ++ b9) v2 L2 xs2 bs2 (w5.setCell ⟨hb,0,none⟩ (.slice A5 (xs1.length+1) c5)):=by
 have hA:Below J.heap.size J (J.alloc (.cells #[.string a.name,v9] 168)):=ζ;have a8:=hk.trans (hA.mono hk.size);have h2:=h.later a8;have ag:=h2.oC;have am:=hk.size;have a9:=h.hB;have aa:=h.h1;have ab:=h.h0;have ao:=h.oC;have g9:∀ b ∈ b9,wr.heap.size≤b∧b < J.heap.size:=fun b hb=>⟨(hn.own b hb).1,hn.lt hb⟩
 have a0:∀ b,b < J.heap.size+1→v1.ownBlock ≠ some b→w5.heap[b]? = (J.alloc (.cells #[.string a.name,v9] 168)).heap[b]?:=fun b hb a4=>hg.block b (by simpa using hb) (fun e=>a4 e.symm)
 have o1:∀ b,v1.ownBlock=some b→B≤b∧b < wr.heap.size:=fun b hb=>bG h.c1.own hb
 have o2:∀ b,v2.ownBlock=some b→B≤b∧b < wr.heap.size:=fun b hb=>bG h.c2.own hb
 have l1:∀ b ∈ bs1,b < wr.heap.size:=fun b hb=>h.c1.row.lt (gV _) b hb
 have l2:∀ b ∈ bs2,b < wr.heap.size:=fun b hb=>h.c2.row.lt (gV _) b hb
 have n1:v1.ownBlock ≠ some hb:=fun e=>by have:=(o1 _ e).1; omega
 have n0:v1.ownBlock ≠ some hz:=fun e=>by have:=(o1 _ e).1; omega
 have a1:=(a0 hb (by omega) n1).trans h2.r1;have ac:=(a0 hz (by omega) n0).trans h2.r0;have ae:Ey vars (J.alloc (.cells #[.string a.name,v9] 168)) [.string a.name,v9] a b9:=⟨v9,rfl,a7,(cO _).below hp hA⟩
 have af:aZ 2 (Ey vars) B 168 w5 (.slice A5 (xs1.length+1) c5) (L1 ++ [.string a.name,v9]) (xs1 ++ [a]) (bs1 ++ b9):=
  h2.c1.app (gV _) (aQ.dh (FT _) ae) (fun b hb e=>by have:=(o1 _ e).2; have:=(g9 b hb).1; omega) a5 hg a2
 have U:∀ b,b ≠ hb→(w5.setCell ⟨hb,0,none⟩ (.slice A5 (xs1.length+1) c5)).heap[b]? = w5.heap[b]?:=fun b a4=>π _ _ _ _ a4
 have a3:∀ b,(Value.slice A5 (xs1.length+1) c5).ownBlock=some b→v1.ownBlock=some b∨b=J.heap.size+1:=fun b e=>by
  rcases a2 with I | I
  ·left; rw [← I]; exact e
  ·right; rw [I] at e; simp at e; omega
 refine ⟨ai a1,ai a1,ai a1,ax a1,⟨(U _ (by omega)).trans ac,?_,ab,aa,a9,?_,?_,?_,h.k2,?_,?_,?_,h.kv,?_,?_⟩⟩
 ·have:=bK (o:=0) (u:=.slice A5 (xs1.length+1) c5) a1
  simpa using this
 ·exact af.lU (gV _) (fun b e=>U b (fun e2=>by
   subst e2
   rcases a3 _ e with I | I
   ·exact n1 I
   ·omega)) (fun b y=>U b (fun e2=>by
   subst e2
   rcases μ.1 y with I | I
   ·have:=h.k1 _ I; omega
   ·have:=(g9 _ I).1; omega))
 ·refine (h2.c2.lU (gV _) (fun b e=>?_) (fun b y=>?_))
  ·have:=o2 _ e
   rw [U b (by omega)];exact a0 b (by omega) (fun e2=>(h.f12 b e2).1 e)
  ·have:=l2 _ y
   have:=h.k2 _ y;rw [U b (by omega)];exact a0 b (by omega) (fun e2=>(h.f12 b e2).2 y)
 ·intro b y
  rcases μ.1 y with I | I
  ·exact h.k1 _ I
  ·have:=(g9 _ I).1; omega
 ·intro b e
  rcases a3 _ e with I | I
  ·exact h.f12 b I
  ·exact ⟨fun e2=>by have:=(o2 _ e2).2; omega,fun e2=>by have:=l2 _ e2; omega⟩
 ·intro b e y
  rcases μ.1 y with I | I
  ·exact h.f21 b e I
  ·have:=(o2 _ e).2; have:=(g9 _ I).1; omega
 ·refine bV.keep h2.vs fun b y=>?_
  have:=h.kv b y;rw [U b (by omega)];exact a0 b (by omega) (fun e=>by have:=(o1 _ e).1; omega)
 ·have a6:Below w.heap.size w w5:=h2.bel.grown hg h2.bel.size fun k e=>by have:=(o1 _ e).1; omega
  exact a6.setCell (by show w.heap.size≤hb; omega) _
 ·have:=hg.size; simp [World.setCell]; simp at this; omega
theorem D.tu.XA {a:A} {v9:Value} {b9:List Nat} {J w5:World} {A5:Option Addr} {c5:Nat} (h:tu vars w hz hb B vv b3 v1 L1 xs1 bs1 v2 L2 xs2 bs2 wr) (hk:Below wr.heap.size wr J) (a7:a.name.size≤maxLen) (hp:jS vars J [v9] a.args b9) (hn:New wr.heap.size J b9) (h9:Value.oneCell' v9=true)
  (a5:w5.ownsRow B 168 2 (.slice A5 (xs2.length+1) c5) (xs2.length+1) (L2 ++ [.string a.name,v9])) (hg:(J.alloc (.cells #[.string a.name,v9] 168)).grownBy w5 v2.ownBlock)
  (a3:(Value.slice A5 (xs2.length+1) c5).ownBlock=v2.ownBlock∨(Value.slice A5 (xs2.length+1) c5).ownBlock=some (J.alloc (.cells #[.string a.name,v9] 168)).heap.size):
  w5.cell? ⟨hb,0,none⟩=some v1∧w5.cell? ⟨hb,1,none⟩=some v2∧w5.cell? ⟨hb,2,none⟩=some vv∧w5.frozen? ⟨hb,1,none⟩=false∧
   tu vars w hz hb B vv b3 v1 L1 xs1 bs1 (.slice A5 (xs2.length+1) c5) (L2 ++ [.string a.name,v9]) (xs2 ++ [a]) (bs2 ++ b9) (w5.setCell ⟨hb,1,none⟩ (.slice A5 (xs2.length+1) c5)):=by
 have hA:Below J.heap.size J (J.alloc (.cells #[.string a.name,v9] 168)):=ζ;have a8:=hk.trans (hA.mono hk.size);have h2:=h.later a8;have ag:=h2.oC;have am:=hk.size;have a9:=h.hB;have aa:=h.h1;have ab:=h.h0;have ao:=h.oC;have g9:∀ b ∈ b9,wr.heap.size≤b∧b < J.heap.size:=fun b hb=>⟨(hn.own b hb).1,hn.lt hb⟩
 have a0:∀ b,b < J.heap.size+1→v2.ownBlock ≠ some b→w5.heap[b]? = (J.alloc (.cells #[.string a.name,v9] 168)).heap[b]?:=fun b hb a4=>hg.block b (by simpa using hb) (fun e=>a4 e.symm)
 have o1:∀ b,v1.ownBlock=some b→B≤b∧b < wr.heap.size:=fun b hb=>bG h.c1.own hb
 have o2:∀ b,v2.ownBlock=some b→B≤b∧b < wr.heap.size:=fun b hb=>bG h.c2.own hb
 have l1:∀ b ∈ bs1,b < wr.heap.size:=fun b hb=>h.c1.row.lt (gV _) b hb
 have l2:∀ b ∈ bs2,b < wr.heap.size:=fun b hb=>h.c2.row.lt (gV _) b hb
 have n1:v2.ownBlock ≠ some hb:=fun e=>by have:=(o2 _ e).1; omega
 have n0:v2.ownBlock ≠ some hz:=fun e=>by have:=(o2 _ e).1; omega
 have a1:=(a0 hb (by omega) n1).trans h2.r1;have ac:=(a0 hz (by omega) n0).trans h2.r0;have ae:Ey vars (J.alloc (.cells #[.string a.name,v9] 168)) [.string a.name,v9] a b9:=⟨v9,rfl,a7,(cO _).below hp hA⟩
 have af:aZ 2 (Ey vars) B 168 w5 (.slice A5 (xs2.length+1) c5) (L2 ++ [.string a.name,v9]) (xs2 ++ [a]) (bs2 ++ b9):=
  h2.c2.app (gV _) (aQ.dh (FT _) ae) (fun b hb e=>by have:=(o2 _ e).2; have:=(g9 b hb).1; omega) a5 hg a3
 have U:∀ b,b ≠ hb→(w5.setCell ⟨hb,1,none⟩ (.slice A5 (xs2.length+1) c5)).heap[b]? = w5.heap[b]?:=fun b a4=>π _ _ _ _ a4
 have a2:∀ b,(Value.slice A5 (xs2.length+1) c5).ownBlock=some b→v2.ownBlock=some b∨b=J.heap.size+1:=fun b e=>by
  rcases a3 with I | I
  ·left; rw [← I]; exact e
  ·right; rw [I] at e; simp at e; omega
 refine ⟨ai a1,ai a1,ai a1,ax a1,⟨(U _ (by omega)).trans ac,?_,ab,aa,a9,?_,?_,h.k1,?_,?_,?_,?_,h.kv,?_,?_⟩⟩
 ·have:=bK (o:=1) (u:=.slice A5 (xs2.length+1) c5) a1
  simpa using this
 ·refine (h2.c1.lU (gV _) (fun b e=>?_) (fun b y=>?_))
  ·have:=o1 _ e
   rw [U b (by omega)];exact a0 b (by omega) (fun e2=>(h.f12 b e).1 e2)
  ·have:=l1 _ y
   have:=h.k1 _ y;rw [U b (by omega)];exact a0 b (by omega) (fun e2=>h.f21 b e2 y)
 ·exact af.lU (gV _) (fun b e=>U b (fun e2=>by
   subst e2
   rcases a2 _ e with I | I
   ·exact n1 I
   ·omega)) (fun b y=>U b (fun e2=>by
   subst e2
   rcases μ.1 y with I | I
   ·have:=h.k2 _ I; omega
   ·have:=(g9 _ I).1; omega))
 ·intro b y
  rcases μ.1 y with I | I
  ·exact h.k2 _ I
  ·have:=(g9 _ I).1; omega
 ·intro b e
  refine ⟨fun e2=>?_,fun y=>?_⟩
  ·rcases a2 _ e2 with I | I
   ·exact (h.f12 b e).1 I
   ·have:=(o1 _ e).2; omega
  ·rcases μ.1 y with I | I
   ·exact (h.f12 b e).2 I
   ·have:=(o1 _ e).2; have:=(g9 _ I).1; omega
 ·intro b e y
  rcases a2 _ e with I | I
  ·exact h.f21 b I y
  ·have:=l1 _ y; omega
 ·refine bV.keep h2.vs fun b y=>?_
  have:=h.kv b y;rw [U b (by omega)];exact a0 b (by omega) (fun e=>by have:=(o2 _ e).1; omega)
 ·have a6:Below w.heap.size w w5:=h2.bel.grown hg h2.bel.size fun k e=>by have:=(o2 _ e).1; omega
  exact a6.setCell (by show w.heap.size≤hb; omega) _
 ·have:=hg.size; simp [World.setCell]; simp at this; omega
end
end
end Go.Proofs.YtkjinanbccloeaaGreatDoor
