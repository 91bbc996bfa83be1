/- Of the proof of FnDeltaNeeds: L3L, DrawB, Draw2F, Fs2, MergeS, MapT, MapR, SortI, QryQ, BdP. -/
import Derived.Test.YtkjinanbccloeaaGreatDoorE11
set_option linter.unusedVariables false
set_option maxHeartbeats 2000000
set_option maxRecDepth 100000
namespace Go.Proofs.YtkjinanbccloeaaGreatDoor
section
open Go.RowKit D
attribute [local go_sem ↓] Go.wp_at_zero Go.wp_at_succ
theorem D.Ip (xs ys:List A) (k:Nat) (h:k < xs.length):cu (xs.take (k+1)) ys=if hasB ys xs[k] then cu (xs.take k) ys else cu (xs.take k) ys ++ [xs[k]]:=by
 unfold cu;rw [ρ h,List.filter_append]
 cases h':hasB ys xs[k] <;> simp [h']
theorem D.Jz (xs ys:List A) (k:Nat) (h:k < xs.length) (e:hasB ys xs[k]=false):cu (xs.take (k+1)) ys=cu (xs.take k) ys ++ [xs[k]]:=by rw [Ip xs ys k h,e]; rfl
theorem D.Gl (xs ys:List A) (k:Nat) (h:k < xs.length) (e:hasB ys xs[k]=true):cu (xs.take (k+1)) ys=cu (xs.take k) ys:=by rw [Ip xs ys k h,e]; rfl
theorem D.ML (xs ys:List A):(cu xs ys).length≤xs.length:=List.length_filter_le _ _
theorem Fe (xs ys:List A) (v1 v2:Value) (bs1 bs2:List Nat) (w:World) (h:aC w [v1] xs bs1) (h2:aC w [v2] ys bs2) (hs:gm ys=true) (hn:xs.length≤16777216) (ha:∀ a ∈ xs,a.args.length≤16777216):
  Calls Tryz.prog 142 #[v1,v2] w fun e w'=>Below w.heap.size w w'∧∃ v L b9,e=.returned v∧aX 2 aJ w.heap.size 33 w' v L (cu xs ys) b9∧∀ c ∈ b9,w.heap.size≤c:=by
 obtain ⟨Ad,cap,rfl,hl,hm⟩:=aj h;obtain ⟨b4,cap2,rfl,b5,aq⟩:=aj h2;obtain ⟨i0,hi,ar,av,aw⟩:=info_parts qK;clear hm aq;have hA:Below w.heap.size w (w.alloc (.cells #[] 33)):=ζ;have aa:=aX.empty (n:=2) (R:=aJ) (e:=33) (ω w (.cells #[] 33)) (Nat.le_refl w.heap.size)
 go_enter Tryz.func142,Tryz.ntmps142
 go_wp2
 go_loopw [5,6] (fun v i wr=>∃ (k m:Nat) (A:Option Addr) (cp:Nat) (L:List Value) (b2:List Nat),k≤xs.length∧i=.int .i64 k∧v=.slice A m cp∧m=(cu (xs.take k) ys).length∧aX 2 aJ w.heap.size 33 wr (.slice A m cp) L (cu (xs.take k) ys) b2∧Below w.heap.size w wr∧∀ c ∈ b2,w.heap.size≤c) (fun _ i _=>xs.length - (intOf i).toNat)
 case atStart=>exact ⟨0,0,_,_,_,_,ε,rfl,rfl,rfl,aa,hA,fun c hc=>by simp at hc⟩
 case round=>
  obtain ⟨k,m,A,cp,L,b2,hk,rfl,rfl,ab,hC,hb,a1⟩:=hrel;have a2:=η a1;clear a1;clear aa hA;have b6:m≤16777216:=by have:=ML (xs.take k) ys; rw [List.length_take] at this; omega
  have HM:=η ab;clear ab;by_cases J:k < xs.length
  ·have U:=η J
   obtain ⟨b,o,Ae,ce,bk,rfl,_,c0,c1,a3,_⟩:=dL (au.below h hb) J;have az:xs[k].args.length≤16777216:=ha _ (δ _);have b7:(0:Int)≤(k:Int):=by omega
   have b8:(k:Int) < (xs.length:Int):=by omega
   have a4:Hid (hasB ys xs[k]=false→cu (xs.take (k+1)) ys=cu (xs.take k) ys ++ [xs[k]]):=η (fun e=>Jz xs ys k J e);have a5:Hid (hasB ys xs[k]=true→cu (xs.take (k+1)) ys=cu (xs.take k) ys):=η (fun e=>Gl xs ys k J e);have hh:=AZ ys xs[k] _ _ _ bs2 bk wr (au.below h2 hb) a3 hs;have hc:=fun w' (a6:Below wr.heap.size wr w')=>Ez xs[k] _ _ bk w' (ak.below a3 a6) az
   have HC:=η hC;clear h h2 ha hC a3
   go_wp2_with fail
   refine hh.mono ?_;rintro e w0 ⟨rfl,y⟩;have B0:=hb.trans (y.mono hb.size);have e0:=ξ y c0;have e1:=ξ y c1;clear hh;cases hhv:hasB ys xs[k]
   ·have I:Hid (cu (xs.take (k+1)) ys=cu (xs.take k) ys ++ [xs[k]]):=η (a4.out hhv)
    have ac:=hc _ y;have a0:=η (HC.out.below ak y);clear hhv a4 a5 hc
    go_wp2_with fail
    refine ac.mono ?_;rintro e w1 ⟨ae,bc,b3,rfl,hR,hN⟩;obtain ⟨a7,a8,rfl⟩:=wS hR;clear ac;have af:Below w1.heap.size w1 (w1.alloc (.cells #[.string xs[k].name,.slice a7 xs[k].args.length a8] 33)):=ζ;have a9:Below w0.heap.size w0 (w1.alloc (.cells #[.string xs[k].name,.slice a7 xs[k].args.length a8] 33)):=ae.alloc ae.size _;have ag:=η (B0.trans (a9.mono B0.size));have aD:=η (a0.out.below ak a9);have HL:=η (aP (ω w1 (.cells #[.string xs[k].name,.slice a7 xs[k].args.length a8] 33)));have aE:=η (aT.dJ (n:=2) (R:=aJ) eH (ak.below hR af));have HF:Hid (∀ b ∈ b3,(Value.slice A m cp).ownBlock ≠ some b):=η (fun b a6=>jk a0.out.own (hN.own b a6).1);have aL:Hid (∀ c ∈ b2 ++ b3,w.heap.size≤c):=η (fun c hc=>(μ.1 hc).elim (a2.out c) (fun h9=>τ B0.size (hN.own c h9).1));have am:Hid ((cu (xs.take k) ys).length=m):=η HM.out.symm;clear a9 af hR hN
    go_wp2_with (at_builtin; refine bU rfl _ _ _ rfl w.heap.size 33 i0 (.agg #[.string ⟨#[]⟩,.slice none 0 0]) 2 40 Tryz.underlying24 hi ar av aw rfl (by omega) ak (.slice A m cp) m _ _ _ rfl aD.out am.out (some ⟨w1.heap.size,0,none⟩) 1 1 _ [xs[k]] _ rfl aE.out rfl HL.out HF.out (by unfold maxLen; omega) (by omega) w w.heap.size ag.out ν ag.out.size ?_; intro A2 aM w2 ao aR bf _)
    have b1:=η ao;clear ao;go_wp2;go_roundw
    case rel=>exact ⟨k+1,m+1,A2,aM,_,_,U.out,by go_num,rfl,by rw [I.out,χ,am.out]; rfl,by rw [I.out]; exact b1.out,aR,aL.out⟩
    case measure=>have:=U.out; simp [intOf]; omega
   ·have I:Hid (cu (xs.take (k+1)) ys=cu (xs.take k) ys):=η (a5.out hhv)
    have a0:=η (HC.out.below ak y);clear hhv a4 a5 hc;go_wp2;go_roundw
    case rel=>exact ⟨k+1,m,A,cp,L,b2,U.out,by go_num,rfl,by rw [I.out]; exact HM.out,by rw [I.out]; exact a0.out,B0,a2.out⟩
    case measure=>have:=U.out; simp [intOf]; omega
  ·have he:k=xs.length:=by omega
   subst he;rw [ϕ ν] at hC;have HS:=η hC;clear hC;go_wp2;go_ret;exact ⟨hb,_,L,b2,rfl,HS.out,a2.out⟩
theorem xJ (xs ys:List A) (v1 v2:Value) (bs1 bs2:List Nat) (w:World) (h:aC w [v1] xs bs1) (y:aC w [v2] ys bs2) (J:gm ys=true) (hn:xs.length≤16777216) (ha:∀ a ∈ xs,a.args.length≤16777216):
  Calls Tryz.prog 142 #[v1,v2] w (Reads aC (cu xs ys) w.heap.size w):=
 (Fe xs ys v1 v2 bs1 bs2 w h y J hn ha).mono fun e w' ⟨h1,v,L,b9,y,U,_⟩=>by
  obtain ⟨b3,I,_⟩:=U.slice;exact ⟨h1,v,b3,y,I⟩
theorem Iq:(Tryz.prog.info? 42).map (fun i=>(i.zero,i.size,i.bytes))=some (some (.agg #[.bool false,.string ⟨#[]⟩,.slice none 0 0]),3,48):=by kernel_rfl
def D.X7 (p:Pt):Prop:=Sm p.atom.name∧p.atom.args.length≤4∧∀ t ∈ p.atom.args,Sm t.name
structure kT (g p:Nat) (w:World) (xs:List Pt) (v:Value) (wr:World):Prop where
 coll:∃ L bs,aX 3 qF w.heap.size 42 wr v L xs bs∧∀ b ∈ bs,w.heap.size≤b
 small:∀ x ∈ xs,X7 x
 rdr:kQ g p wr
 kept:aI [g] w wr
 glt:g < w.heap.size
section
variable {g p:Nat} {w:World} {xs:List Pt} {v:Value} {wr:World}
theorem kT.call {p2:Nat} {w2:World} (h:kT g p w xs v wr) (J:kQ g p2 w2) (hK:aI [g] wr w2):kT g p2 w xs v w2:=by
 obtain ⟨L,bs,I,y⟩:=h.coll;exact ⟨⟨L,bs,I.KG jH hK h.glt (Jl h.rdr.Gh I.row),y⟩,h.small,J,h.kept.trans hK,h.glt⟩
theorem kT.below {w2:World} (h:kT g p w xs v wr) (hB:Below wr.heap.size wr w2):kT g p w xs v w2:=by
 obtain ⟨L,bs,I,y⟩:=h.coll;exact ⟨⟨L,bs,I.below jH hB,y⟩,h.small,h.rdr.below hB,h.kept.eP hB h.kept.size,h.glt⟩
theorem kT.parts (h:kT g p w xs v wr):∃ bs,jd wr [v] xs bs∧∀ b ∈ bs,w.heap.size≤b:=by
 obtain ⟨L,bs,I,y⟩:=h.coll;obtain ⟨J,U,h2⟩:=I.slice;exact ⟨J,U,fun b hb=>(h2 b hb).elim id (y b)⟩
theorem kT.shape (h:kT g p w xs v wr):∃ A c,v=.slice A xs.length c:=by
 obtain ⟨L,bs,y,_⟩:=h.coll;exact dU y.own
theorem kT.part {a:A} {y:Option Addr} {c2:Nat} {I:List Nat} {N pN:Nat} (h:kT g p w xs v wr) {wN:World} (hN:kT g pN w xs v wN) (a4:wN.heap.size=N) (U:aJ wr [.string a.name,.slice y a.args.length c2] a I) (hf:∀ b ∈ I,N≤b) (no:Bool):
  ∃ L bs,aX 3 qF w.heap.size 42 (wr.alloc (.cells #[.bool no,.string a.name,.slice y a.args.length c2] 42)) v L xs bs∧(∀ b ∈ bs ++ I,w.heap.size≤b)∧aT 3 qF (wr.alloc (.cells #[.bool no,.string a.name,.slice y a.args.length c2] 42)) [.bool no,.string a.name,.slice y a.args.length c2] [⟨no,a⟩] I∧
   Lies (wr.alloc (.cells #[.bool no,.string a.name,.slice y a.args.length c2] 42)) (some ⟨wr.heap.size,0,none⟩) [.bool no,.string a.name,.slice y a.args.length c2]∧(∀ b ∈ I,v.ownBlock ≠ some b)∧Below w.heap.size wr (wr.alloc (.cells #[.bool no,.string a.name,.slice y a.args.length c2] 42)):=by
 obtain ⟨L,bs,hC,a0⟩:=h.coll;obtain ⟨L',bs',a1,_⟩:=hN.coll;have hA:Below wr.heap.size wr (wr.alloc (.cells #[.bool no,.string a.name,.slice y a.args.length c2] 42)):=ζ;obtain ⟨s,J,a2,a3⟩:=ak.below U hA;simp only [List.cons.injEq,and_true,true_and] at J;subst J;exact ⟨L,bs,hC.below jH hA,fun b hb=>(μ.1 hb).elim (a0 b) (fun hb=>by have:=hf b hb; have:=hN.kept.size; omega),aT.dJ OH ⟨_,rfl,a2,a3⟩,aP (ω _ _),fun b hb=>jk a1.own (by have:=hf b hb; omega),ϑ.alloc h.kept.size _⟩
theorem kT.app {J:World} {v4:Value} {L4:List Value} {I:List Nat} {y:Pt} (h:kT g p w xs v wr) (hC:aX 3 qF w.heap.size 42 J v4 L4 (xs ++ [y]) I) (U:∀ b ∈ I,w.heap.size≤b) (hB:Below w.heap.size wr J) (hy:X7 y):kT g p w (xs ++ [y]) v4 J:=
 ⟨⟨L4,I,hC,U⟩,fun x hx=>(μ.1 hx).elim (h.small x) (fun hx=>by rw [ώ.1 hx]; exact hy),h.rdr.eP hB h.glt,h.kept.eP hB ν,h.glt⟩
end
def Y2 (k m g p q:Nat) (w:World) (e:Ending) (w':World):Prop:=
 ∃ (xs:List Pt) (v:Value) (y:Nat),e=.returned v∧k≤xs.length∧xs.length≤m∧y≤p+q∧kT g y w xs v w'
theorem Dh (g p:Nat) (ws:List ByteArray) (n b:Nat) (w:World) (h:kQ g p w) (hb:w.heap[b]? = some (.cells (ws.map Value.string).toArray 9 (0,0))) (b1:g ≠ b) (hp:p≤700000) (hn:ws.length=n) (h1:1≤n) (h2:n≤100) (hs:∀ s ∈ ws,Sm s):
  Calls Tryz.prog 158 #[.pointer (some ⟨g,0,none⟩),.slice (some ⟨b,0,none⟩) n n] w (Y2 1 3 g p 25 w):=by
 obtain ⟨i0,hi,b2,b5,b6⟩:=info_parts Iq;have hA:Below w.heap.size w (w.alloc (.cells #[] 42)):=ζ;have HF:Hid (kT g p w [] (.slice (some ⟨w.heap.size,0,none⟩) 0 0) (w.alloc (.cells #[] 42))):=η ⟨⟨_,_,aX.empty (ω w _) ν,fun b hb=>by simp at hb⟩,fun a ha=>by simp at ha,h.below hA,aI.of_below hA,h.lt⟩;have aw:=pick_any g p 3 _ HF.out.rdr (by omega) (by omega) (by omega);have HP:=η hp;have b7:=η hb;have a0:=fun p' w' hR bo bp=>U6 g p' ws n b w' hR bo b1 bp hn h1 h2 hs
 have b8:=η a0;have b9:=η b1;clear h hp hA hb b1 hn h1 h2 hs a0
 go_enter Tryz.func158,Tryz.ntmps158
 go_wp2_with fail
 refine aw.mono ?_;rintro e w1 ⟨m,rfl,hm,bg,bh⟩;have bi:=η (HF.out.call bg (aI.dB bh));have HN:Hid (m < 3):=η (by omega);have bq:(m:Int) < 3:=hm;clear aw bg bh HF hm;go_wp2
 go_loopw [5,6] (fun v i wr=>∃ (k:Nat) (xs:List Pt) (Av:Option Addr) (cp p':Nat),i=.int .i64 k∧v=.slice Av xs.length cp∧xs.length+k=m+1∧p'+8 * k≤p+1+8 * (m+1)∧kT g p' w xs (.slice Av xs.length cp) wr) (fun _ i _=>(intOf i).toNat)
 case atStart=>exact ⟨m+1,[],_,_,p+1,by congr 1; omega,rfl,by simp,by omega,bi.out⟩
 case round=>
  obtain ⟨k,xs,Av,cp,p',rfl,rfl,hk,hp,hF⟩:=hrel;have bc:=η hF;have HX:Hid (xs.length+k=m+1∧p'+8 * k≤p+1+8 * (m+1)):=η ⟨hk,hp⟩;have HQ:Hid (p'≤800000∧k≤3∧xs.length≤3):=η (by have:=HP.out; have:=HN.out; omega);clear hF bi hk hp bq;by_cases bf:0 < k
  ·have bt:(0:Int) < (k:Int):=by omega
   have bu:(k:Int)≤3:=by have:=HQ.out.2.1; omega
   have HK:=η bf;have aw:=pick_any g p' 6 wr bc.out.rdr (by have:=HQ.out; omega) (by omega) (by omega);clear bf
   go_wp2_with fail
   refine aw.mono ?_;rintro e w2 ⟨m6,rfl,br,bj,bk⟩;have a5:=η (bc.out.call bj (aI.dB bk));clear aw bj bk br;by_cases hz:m6=0
   ·subst hz
    by_cases bv:0 < xs.length
    ·have bl:(0:Int) < (xs.length:Int):=by omega
     have a0:=b8.out (p'+1) w2 a5.out.rdr (a5.out.kept.blk b7.out (by simp; exact fun e=>b9.out e.symm)) (by have:=HQ.out.1; omega)
     go_wp2_with fail
     refine a0.mono ?_;rintro e w3 ⟨s,rfl,hs,a1,a6⟩;have a7:=η (a5.out.call a1 a6);have a8:=oO s true g (p'+1+1) w3 a1 (by have:=HQ.out.1; omega) hs;clear a0 a1 a6 hs
     go_wp2_with fail
     refine a8.mono ?_;rintro e w4 ⟨a,v4,L4,p4,rfl,a2,a9,a3,aa,az,ab,I⟩;obtain ⟨b4,J,y⟩:=a3.slice;obtain ⟨A4,c4,rfl⟩:=dU a3.own;have a4:=η (a7.out.call aa ab);have ac:Hid (X7 ⟨true,a⟩∧p4≤p'+8):=η ⟨⟨a2,Nat.le_succ_of_le a9,I⟩,by omega⟩;obtain ⟨L5,bn,ae,U,af,ag,am,ao⟩:=a4.out.part a7.out rfl ⟨_,rfl,Sm.max a2,J⟩ (fun b hb=>(y b hb).resolve_right (by simp)) (true);have HY:=η (ι ae (ι U (ι af (ι ag (ι am ao)))));have aq:Hid (xs.length+1≤maxLen∧(xs.length+1) * 48≤140737488355328):=η (by have:=HQ.out; unfold maxLen; omega);clear a8 a2 a9 a3 aa az ab I J y ae U af ag am ao;have aD:Hid (w.heap.size≤(w4.alloc (.cells #[.bool true,.string a.name,.slice A4 a.args.length c4] 42)).heap.size):=η (by have:=a4.out.kept.size; simp; omega)
     go_wp2_with (at_builtin; refine bU rfl _ _ _ rfl w.heap.size 42 i0 (.agg #[.bool false,.string ⟨#[]⟩,.slice none 0 0]) 3 48 Tryz.underlying38 hi b2 b5 b6 rfl (by omega) jH (.slice Av xs.length cp) xs.length _ _ _ rfl HY.out.1 rfl (some ⟨w4.heap.size,0,none⟩) 1 1 _ [⟨true,a⟩] _ rfl HY.out.2.2.1 rfl HY.out.2.2.2.1 HY.out.2.2.2.2.1 aq.out.1 aq.out.2 w4 w.heap.size HY.out.2.2.2.2.2 ν aD.out ?_; intro A6 aE w6 ar av aL aM)
     have aR:=η (a4.out.app ar HY.out.2.1 av ac.out.1);clear ar av aL aM HY;go_wp2;go_roundw
     case rel=>exact ⟨k - 1,xs ++ [⟨true,a⟩],A6,aE,p4,by have:=HK.out; first | (unfold wrap64; congr 1; omega) | go_num,by rw [χ]; rfl,by rw [χ]; have:=HX.out; have:=HK.out; simp; omega,by have:=HX.out; have:=HK.out; have:=ac.out.2; omega,by rw [χ]; exact aR.out⟩
     case measure=>have:=HK.out; simp [intOf]; omega
    ·have bl:¬ (0:Int) < (xs.length:Int):=by omega
     have a0:=b8.out (p'+1) w2 a5.out.rdr (a5.out.kept.blk b7.out (by simp; exact fun e=>b9.out e.symm)) (by have:=HQ.out.1; omega)
     go_wp2_with fail
     refine a0.mono ?_;rintro e w3 ⟨s,rfl,hs,a1,a6⟩;have a7:=η (a5.out.call a1 a6);have a8:=oO s true g (p'+1+1) w3 a1 (by have:=HQ.out.1; omega) hs;clear a0 a1 a6 hs
     go_wp2_with fail
     refine a8.mono ?_;rintro e w4 ⟨a,v4,L4,p4,rfl,a2,a9,a3,aa,az,ab,I⟩;obtain ⟨b4,J,y⟩:=a3.slice;obtain ⟨A4,c4,rfl⟩:=dU a3.own;have a4:=η (a7.out.call aa ab);have ac:Hid (X7 ⟨false,a⟩∧p4≤p'+8):=η ⟨⟨a2,Nat.le_succ_of_le a9,I⟩,by omega⟩;obtain ⟨L5,bn,ae,U,af,ag,am,ao⟩:=a4.out.part a7.out rfl ⟨_,rfl,Sm.max a2,J⟩ (fun b hb=>(y b hb).resolve_right (by simp)) (false);have HY:=η (ι ae (ι U (ι af (ι ag (ι am ao)))));have aq:Hid (xs.length+1≤maxLen∧(xs.length+1) * 48≤140737488355328):=η (by have:=HQ.out; unfold maxLen; omega);clear a8 a2 a9 a3 aa az ab I J y ae U af ag am ao;have aD:Hid (w.heap.size≤(w4.alloc (.cells #[.bool false,.string a.name,.slice A4 a.args.length c4] 42)).heap.size):=η (by have:=a4.out.kept.size; simp; omega)
     go_wp2_with (at_builtin; refine bU rfl _ _ _ rfl w.heap.size 42 i0 (.agg #[.bool false,.string ⟨#[]⟩,.slice none 0 0]) 3 48 Tryz.underlying38 hi b2 b5 b6 rfl (by omega) jH (.slice Av xs.length cp) xs.length _ _ _ rfl HY.out.1 rfl (some ⟨w4.heap.size,0,none⟩) 1 1 _ [⟨false,a⟩] _ rfl HY.out.2.2.1 rfl HY.out.2.2.2.1 HY.out.2.2.2.2.1 aq.out.1 aq.out.2 w4 w.heap.size HY.out.2.2.2.2.2 ν aD.out ?_; intro A6 aE w6 ar av aL aM)
     have aR:=η (a4.out.app ar HY.out.2.1 av ac.out.1);clear ar av aL aM HY;go_wp2;go_roundw
     case rel=>exact ⟨k - 1,xs ++ [⟨false,a⟩],A6,aE,p4,by have:=HK.out; first | (unfold wrap64; congr 1; omega) | go_num,by rw [χ]; rfl,by rw [χ]; have:=HX.out; have:=HK.out; simp; omega,by have:=HX.out; have:=HK.out; have:=ac.out.2; omega,by rw [χ]; exact aR.out⟩
     case measure=>have:=HK.out; simp [intOf]; omega
   ·have bw:¬ (m6:Int)=0:=by omega
    have a0:=b8.out (p'+1) w2 a5.out.rdr (a5.out.kept.blk b7.out (by simp; exact fun e=>b9.out e.symm)) (by have:=HQ.out.1; omega)
    go_wp2_with fail
    refine a0.mono ?_;rintro e w3 ⟨s,rfl,hs,a1,a6⟩;have a7:=η (a5.out.call a1 a6);have a8:=oO s true g (p'+1+1) w3 a1 (by have:=HQ.out.1; omega) hs;clear a0 a1 a6 hs
    go_wp2_with fail
    refine a8.mono ?_;rintro e w4 ⟨a,v4,L4,p4,rfl,a2,a9,a3,aa,az,ab,I⟩;obtain ⟨b4,J,y⟩:=a3.slice;obtain ⟨A4,c4,rfl⟩:=dU a3.own;have a4:=η (a7.out.call aa ab);have ac:Hid (X7 ⟨false,a⟩∧p4≤p'+8):=η ⟨⟨a2,Nat.le_succ_of_le a9,I⟩,by omega⟩;obtain ⟨L5,bn,ae,U,af,ag,am,ao⟩:=a4.out.part a7.out rfl ⟨_,rfl,Sm.max a2,J⟩ (fun b hb=>(y b hb).resolve_right (by simp)) (false);have HY:=η (ι ae (ι U (ι af (ι ag (ι am ao)))));have aq:Hid (xs.length+1≤maxLen∧(xs.length+1) * 48≤140737488355328):=η (by have:=HQ.out; unfold maxLen; omega);clear a8 a2 a9 a3 aa az ab I J y ae U af ag am ao;have aD:Hid (w.heap.size≤(w4.alloc (.cells #[.bool false,.string a.name,.slice A4 a.args.length c4] 42)).heap.size):=η (by have:=a4.out.kept.size; simp; omega)
    go_wp2_with (at_builtin; refine bU rfl _ _ _ rfl w.heap.size 42 i0 (.agg #[.bool false,.string ⟨#[]⟩,.slice none 0 0]) 3 48 Tryz.underlying38 hi b2 b5 b6 rfl (by omega) jH (.slice Av xs.length cp) xs.length _ _ _ rfl HY.out.1 rfl (some ⟨w4.heap.size,0,none⟩) 1 1 _ [⟨false,a⟩] _ rfl HY.out.2.2.1 rfl HY.out.2.2.2.1 HY.out.2.2.2.2.1 aq.out.1 aq.out.2 w4 w.heap.size HY.out.2.2.2.2.2 ν aD.out ?_; intro A6 aE w6 ar av aL aM)
    have aR:=η (a4.out.app ar HY.out.2.1 av ac.out.1);clear ar av aL aM HY;go_wp2;go_roundw
    case rel=>exact ⟨k - 1,xs ++ [⟨false,a⟩],A6,aE,p4,by have:=HK.out; first | (unfold wrap64; congr 1; omega) | go_num,by rw [χ]; rfl,by rw [χ]; have:=HX.out; have:=HK.out; simp; omega,by have:=HX.out; have:=HK.out; have:=ac.out.2; omega,by rw [χ]; exact aR.out⟩
    case measure=>have:=HK.out; simp [intOf]; omega
  ·obtain rfl:k=0:=by omega
   clear bf;go_wp2;go_ret;exact ⟨xs,_,p',rfl,by have:=HX.out; omega,by have:=HX.out; have:=HN.out; omega,by have:=HX.out; have:=HN.out; omega,bc.out⟩
theorem Di (g p:Nat) (w:World) (h:kQ g p w) (hp:p≤800000):
  Calls Tryz.prog 160 #[.pointer (some ⟨g,0,none⟩)] w (Lj 3 g p 7 w):=by
 have hA:Below w.heap.size w (w.alloc (.cells #[.string ⟨#[]⟩,.slice none 0 0] 33)):=ζ;have ho:=rY g p [⟨#[101]⟩,⟨#[101]⟩,⟨#[101]⟩,⟨#[112]⟩,⟨#[112]⟩,⟨#[113]⟩,⟨#[122]⟩,⟨#[104]⟩] 8 (w.alloc (.cells #[.string ⟨#[]⟩,.slice none 0 0] 33)) (h.below hA) (by omega) rfl (by decide) (by decide) (by decide);rw [World.size_alloc] at ho;have hg:=h.lt;have y:=η (ω w (.cells #[.string ⟨#[]⟩,.slice none 0 0] 33));have a1:=η hp;clear h hp
 go_enter Tryz.func160,Tryz.ntmps160
 go_wp2_with fail
 refine ho.mono ?_;rintro e w1 ⟨s,rfl,hs,hR,hK⟩;replace y:=η (hK.blk y.out (by simp; omega));have HK:=η ((aI.of_below hA (bs:=[g])).trans hK);have J:=LC s false g (p+1) w1 hR (by have:=a1.out; omega) hs;clear ho hK hR hA
 go_wp2_with fail
 refine J.mono ?_;rintro e w2 ⟨a,v,L,p',rfl,U,hx,hC,a0,a2,I⟩;replace y:=η (I.blk y.out (by simp; omega));have z0:=ai (o:=0) y.out;have z1:=ai (o:=1) y.out;have f0:=ax (o:=0) y.out;have f1:=ax (o:=1) y.out;simp only [List.getElem?_toArray,List.getElem?_cons_zero,List.getElem?_cons_succ] at z0 z1;obtain ⟨Av,cv,rfl⟩:=dU hC.own;have HD:=η (LU (k:=3) (p0:=p) (q:=7) y.out ν hC HK.out.size a0 (HK.out.trans I) hg U hx (by omega));clear J hC a0 I U hx a2 hs;go_wp2;refine bodyPost_ret (v:=.agg #[.string a.name,.slice Av a.args.length cv]) (by simp [results,Tryz.results160,go_sem,z0,z1]) rfl HD.out
theorem JA (c d:Ch) (c0 c1 d0 d1:Value) (b1 b2:List Nat) (w:World) (h:gK w [c0,c1] c b1) (h2:gK w [d0,d1] d b2):
  Calls Tryz.prog 31 #[.agg #[c0,c1],.agg #[d0,d1]] w (UE (c.comes=d.comes∧c.goes=d.goes) w):=by
 obtain ⟨Ad,cap,Ae,y,rfl,rfl⟩:=iD h;obtain ⟨Af,U,Ag,I,rfl,rfl⟩:=iD h2;obtain ⟨p1,p2,rfl,ht,hp⟩:=gQ h;obtain ⟨p3,p4,rfl,a0,a1⟩:=gQ h2;have hA:Below w.heap.size w ((w.alloc (.cells #[.slice Ad c.comes.length cap,.slice Ae c.goes.length y] 54)).alloc (.cells #[.slice Af d.comes.length U,.slice Ag d.goes.length I] 54)):=(ζ).alloc (by simp) _;have q1:=EC c.comes d.comes _ _ p1 p3 _ (au.below ht hA) (au.below a0 hA);have q2:=fun w' (hb:Below w.heap.size w w')=>EC c.goes d.goes _ _ p2 p4 w' (au.below hp hb) (au.below a1 hb)
 clear h h2 ht hp a0 a1
 go_enter Tryz.func31,Tryz.ntmps31
 go_wp2_with fail
 refine q1.mono ?_;rintro e w1 ⟨r,rfl,hr,J⟩;have HR:=η hr;have B1:=hA.trans (J.mono hA.size);have x1:w1.cell? ⟨w.heap.size,1,none⟩=some (.slice Ae c.goes.length y):=ξ J (by go_simp);have y1:w1.cell? ⟨w.heap.size+1,1,none⟩=some (.slice Ag d.goes.length I):=ξ J (by go_simp);clear q1 hr hA;cases r
 ·have HW:Hid (¬ (c.comes=d.comes∧c.goes=d.goes)):=η (fun e=>by have:=HR.out.2 e.1; cases this)
  clear q2;go_wp2;go_ret;exact ⟨false,rfl,by simpa using HW.out,B1⟩
 ·have HE:=η (HR.out.1 rfl)
  go_wp2_with fail
  refine (q2 _ B1).mono ?_;rintro e w2 ⟨r2,rfl,a2,a5⟩;have a3:=η a2;have a4:=η (B1.trans (a5.mono B1.size));clear a2 q2;cases r2
  ·have HW:Hid (¬ (c.comes=d.comes∧c.goes=d.goes)):=η (fun e=>by have:=a3.out.2 e.2; cases this)
   go_wp2;go_ret;exact ⟨false,rfl,by simpa using HW.out,a4.out⟩
  ·have HW:Hid (c.comes=d.comes∧c.goes=d.goes):=η ⟨HE.out,a3.out.1 rfl⟩
   go_wp2;go_ret;exact ⟨true,rfl,by simpa using HW.out,a4.out⟩
end
section
open Go.RowKit D Go.Shelf
attribute [local go_sem ↓] Go.wp_at_zero Go.wp_at_succ
theorem uP (n:Nat) (hn:1≤n) (I U:Nat) (xs ys:List A) (v1 v2:Value) (bs1 bs2:List Nat) (wd w0:World) (h1:aC wd [v1] xs bs1) (h2:aC wd [v2] ys bs2)
  (Kp:World→World→Prop) (a0:∀ W W',Kp W W'→MInv I U v1 v2 wd W→MInv I U v1 v2 wd W') (h0:MInv I U v1 v2 wd w0):
  SeqStopsK Fence.wide n Tryz.prog 197 #[.pointer (some ⟨I,0,none⟩),.pointer (some ⟨U,0,none⟩)] (fun x:pK wd=>x.enc) Kp
   (fun y=>y.map pK.key=bQ xs ys) (fun y=>∃ rest,y.map pK.key ++ rest=bQ xs ys) (bQ xs ys).length w0:=fun l J Jx W hW hJ _ hY a1=>by
 refine (RN n hn l I U xs ys v1 v2 bs1 bs2 wd h1 h2 Kp a0 J Jx W (h0.below hW) hJ hY a1).mono ?_;rintro e W' ⟨he,⟨y,h,hj⟩ | ⟨y,rest,h,hj⟩⟩
 ·exact ⟨he,.inl ⟨y,h,hj⟩⟩
 ·exact ⟨he,.inr ⟨y,⟨rest,h⟩,hj⟩⟩
theorem merge_any (y I:Option Addr) (J c1 U c2:Nat) (w:World):
  Calls Tryz.prog 143 #[.agg #[.slice y J c1,.func (.func 64) #[] #[]],.agg #[.slice I U c2,.func (.func 64) #[] #[]]] w fun e w'=>
   e=.returned (.func (.func 197) #[] #[.pointer (some ⟨w.heap.size,0,none⟩),.pointer (some ⟨w.heap.size+1,0,none⟩)])∧
   w'=(w.alloc (.cells #[.slice y J c1,.func (.func 64) #[] #[]] 112)).alloc (.cells #[.slice I U c2,.func (.func 64) #[] #[]] 112):=by
 go_enter Tryz.func143,Tryz.ntmps143
 go_wp2;go_ret;exact ⟨rfl,rfl⟩
end
section
open Go.RowKit Go.ChangeMaps Go.MapKept D
def D.Ir (b:Nat) (w:World):Prop:=∃ es y,w.heap[b]? = some (.map es y)∧(∀ x ∈ es.toList,x.born < y)∧(es.toList.map (·.born)).Nodup
theorem D.Ir.push {b J:Nat} {es:Array MapEntry} {w:World} (hb:w.heap[b]? = some (.map es J)) (k v:Value) (h:Ir b w):Ir b (setBlock w b (.map (es.push ⟨k,v,J⟩) (J+1))):=by
 obtain ⟨a0,a1,h1,U,h3⟩:=h;rw [hb] at h1;cases h1;refine ⟨_,_,heap_setBlock_same hb _,fun x I=>?_,?_⟩
 ·rw [Array.toList_push] at I
  rcases μ.1 I with I | I
  ·exact Nat.lt_succ_of_lt (U x I)
  ·rw [ώ.1 I]; exact Nat.lt_succ_self _
 ·rw [Array.toList_push,List.map_append]
  refine List.nodup_append.2 ⟨h3,by simp,fun x I y hy e=>?_⟩;obtain ⟨z,hz,rfl⟩:=List.mem_map.1 I;simp at hy;have:=U z hz;omega
theorem yX {P:Program} {kt:TypeId} {W:World→Prop} {S:Value→Prop} (hK:KP P kt W S) {w:World} (hW:W w) {t e:TypeId} (ht:P.underlying t=some (.map kt e)) {b:Nat} {L:List (Value × Value)} {k:Value} (v:Value) (h:oG S b L w) (I:S k) (hk:∀ p ∈ L,p.1 ≠ k):
  ∃ w',(Instr.mapUpdate t (.map (some b)) k v).run P w=.ok () w'∧oG S b (L ++ [(k,v)]) w'∧w.grownBy w' (some b)∧(Ir b w→Ir b w'):=by
 obtain ⟨⟨es,ck,hb,rfl⟩,h2,h3⟩:=h;have J:∀ e ∈ es.toList,S e.key:=fun e he=>h2 (e.key,e.val) (List.mem_map.2 ⟨e,he,rfl⟩)
 rcases mZ hK hW I es.toList J with ⟨h5,h6⟩ | ⟨i,U,h5,h6,h7⟩
 ·refine ⟨setBlock w b (.map (es.push ⟨k,v,ck⟩) (ck+1)),?_,⟨⟨_,_,heap_setBlock_same hb _,by simp⟩,?_,?_⟩,mr hb _,Ir.push hb k v⟩
  ·simp [Instr.mapUpdate,run_underlying ht,MapKept.run_getObj_map hb,hK.check w false I,h5,MapKept.run_setObj_map _ hb,Result.andThen,setBlock]
  ·intro p y
   rcases μ.1 y with y | y
   ·exact h2 p y
   ·rw [ώ.1 y]
    exact I
  ·refine List.pairwise_append.2 ⟨h3,List.pairwise_singleton _ _,fun p y q hq=>?_⟩
   rw [ώ.1 hq];exact hk p y
 ·exact absurd h7 (hk (U.key,U.val) (List.mem_map.2 ⟨U,List.mem_of_getElem? h6,rfl⟩))
end
section
open Go.RowKit Go.Maps D
theorem D.gB.MN {b n:Nat} {L:List ByteArray} {f:ByteArray→Int} {w:World} (h:gB b n L f w) {s:ByteArray} (J:s.size≤maxLen) {v:Int} (hv:(if s ∈ L then f s else 0)=v):
  (Instr.lookup 116 (.map (some b)) (.string s) false).run Tryz.prog w=.ok (.int .i64 v) w:=by
 obtain ⟨⟨M,h1,h2,U,h4⟩,h5,h6⟩:=h;obtain ⟨d,y,I,hw⟩:=h1.lookup_int Bc Tryz.underlying116 Tryz.underlying3 (U7 w) (oH J);rw [y]
 have:d=v:=by
  rw [← hv]
  split
  ·rename_i hmem
   have:=h4 s hmem;rw [this] at I;exact Bg I.symm
  ·rename_i hmem
   have h7:has M (Bf s)=false:=by rw [U s]; simpa using hmem
   rw [atKey_of_not_has h7] at I;exact Bg I.symm
 rw [this]
end
section
open Go.RowKit Go.Sort D
theorem JB (xs:List ByteArray) (v:Value) (L:List Value) (base:Nat) (w:World) (hC:aX 1 jI base 9 w v L xs []) (hl:xs.length≤16777216):
  Calls Tryz.prog 226 #[v] w fun e w'=>∃ (v2:Value) (ys:List ByteArray),e=.returned v2∧ys.map (·.data.toList)=Lib.compact (xs.map (·.data.toList))∧aX 1 jI base 9 w' v2 (ys.map Value.string) ys []∧w.grownBy w' v.ownBlock:=by
 obtain ⟨rfl,hs,_⟩:=Ie hC;have I:=hC.own
 rcases I.2 with ⟨rfl,hx⟩ | ⟨g,cap,a4,rfl,a1,hb,h1,h2,h3,h4⟩
 ·have a2:xs = []:=by simpa using hx
  subst a2;refine (Tryz.slices_Compact_string_empty none 0 w).mono ?_;rintro e w' ⟨rfl,rfl⟩;exact ⟨_,[],rfl,by simp [Lib.compact,Lib.compactUpTo],aX.nil _,World.grownBy.refl _ _⟩
 ·have J:(xs.map (·.data.toList)).length=xs.length:=by simp
  have hH:Holds encStr w g 0 (xs.map (·.data.toList)).toArray:=holds_of_block hb (by rw [J,Lib.map_encStr]; simpa using h4);have c:=Tryz.slices_Compact_string g 0 cap (xs.map (·.data.toList)) w hH (by omega) (by omega);rw [J] at c;refine c.mono ?_;rintro e w' ⟨rfl,q,rfl⟩;obtain ⟨zs,U⟩:∃ zs,Lib.compact (xs.map (·.data.toList))=zs:=⟨_,rfl⟩;have a3:zs.length≤xs.length:=by rw [← U,← J]; exact O6 _
  rw [U];have y:=Lib.ownsRow_putRow (enc:=encStr) (zs:=xs.map (·.data.toList)) (ys:=zs ++ List.replicate (xs.length - zs.length) []) (q:=q) (k:=zs.length) (by rw [Lib.map_encStr]; exact I) (by simp; omega) a3;rw [List.take_append_of_le_length ν,ϕ ν] at y;have a0:(EM zs).length=zs.length:=by unfold EM; rw [List.length_map]
  rw [← LZ,← a0] at y;refine ⟨_,EM zs,rfl,EN _,?_,?_⟩
  ·rw [← a0]
   exact yM y (Ig fun b hb=>EO hs b ((CQ _ _).1 (by rw [U]; exact hb)))
  ·have:=grownBy_sorted (w:=w) (g:=g) (n:=q) (os:=#[]) (zs ++ List.replicate (xs.length - zs.length) []).toArray
   rw [grow_empty] at this;exact this
end
section
open Go.RowKit D
theorem D.Vf {w w':World} {base e size n:Nat} {v:Value} {L:List Value} (h:w.ownsRow base e size v n L) (I:∀ b,v.ownBlock=some b→w'.heap[b]? = w.heap[b]?):w'.ownsRow base e size v n L:=by
 refine ⟨h.1,?_⟩
 rcases h.2 with J | ⟨g,cap,y,rfl,U,h4,h5⟩
 ·exact .inl J
 ·exact .inr ⟨g,cap,y,rfl,U,(I g (by simp [Value.ownBlock])).trans h4,h5⟩
theorem D.bH {w:World} {base e size n b:Nat} {v:Value} {L:List Value} (h:w.ownsRow base e size v n L) (hb:v.ownBlock=some b):base≤b∧b < w.heap.size:=by
 rcases h.2 with ⟨rfl,_⟩ | ⟨g,cap,y,rfl,I,J,_⟩
 ·simp [Value.ownBlock] at hb
 ·simp [Value.ownBlock] at hb
  subst hb;exact ⟨I,ψ J⟩
theorem D.aX.nU {α:Type} {n:Nat} {R:Rel α} {base e:Nat} {w w':World} {v:Value} {L:List Value} {xs:List α} {bs:List Nat} (g:Good R) (h:aX n R base e w v L xs bs)
  (h1:∀ b,v.ownBlock=some b→w'.heap[b]? = w.heap[b]?) (y:∀ b ∈ bs,w'.heap[b]? = w.heap[b]?):aX n R base e w' v L xs bs:=
 ⟨Vf h.own h1,h.row.keep g y,h.far⟩
theorem D.RZ (ps:List Pt) (k:Nat) (h:k < ps.length):iE (ps.take (k+1))=iE (ps.take k) ++ (if ps[k].no then [] else [ps[k].atom]):=by
 unfold iE;rw [ρ h,List.filter_append,List.map_append]
 cases hn:ps[k].no <;> simp [hn]
theorem D.Si (ps:List Pt) (k:Nat) (h:k < ps.length):eF (ps.take (k+1))=eF (ps.take k) ++ (if ps[k].no then [ps[k].atom] else []):=by
 unfold eF;rw [ρ h,List.filter_append,List.map_append]
 cases hn:ps[k].no <;> simp [hn]
structure D.wF (vars:List ByteArray) (w:World) (hz hb B:Nat) (vv:Value) (b3:List Nat) (v1:Value) (L1:List Value) (xs1:List A) (bs1:List Nat) (v2:Value) (L2:List Value) (xs2:List A) (bs2:List Nat) (wr:World):Prop where
 r0:wr.heap[hz]? = some (.cells #[.slice none 0 0,.slice none 0 0,.slice none 0 0] 164 (0,0))
 r1:wr.heap[hb]? = some (.cells #[v1,v2,vv] 164 (0,0))
 h0:w.heap.size≤hz
 h1:hz < hb
 hB:hb < B
 c1:aX 2 (Gj vars) B 168 wr v1 L1 xs1 bs1
 c2:aX 2 (Gj vars) B 168 wr v2 L2 xs2 bs2
 k1:∀ b ∈ bs1,B≤b
 k2:∀ b ∈ bs2,B≤b
 f12:∀ b,v1.ownBlock=some b→v2.ownBlock ≠ some b∧b ∉ bs2
 f21:∀ b,v2.ownBlock=some b→b ∉ bs1
 vs:iF wr [vv] vars b3
 kv:∀ b ∈ b3,w.heap.size≤b∧b < hb∧b ≠ hz
 bel:Below w.heap.size w wr
 qE:B≤wr.heap.size
section
variable {vars:List ByteArray} {w:World} {hz hb B:Nat} {vv:Value} {b3:List Nat} {v1:Value} {L1:List Value} {xs1:List A} {bs1:List Nat} {v2:Value} {L2:List Value} {xs2:List A} {bs2:List Nat} {wr:World}
theorem D.wF.later {w' : World} (h : wF vars w hz hb B vv b3 v1 L1 xs1 bs1 v2 L2 xs2 bs2 wr) (y : Below wr.heap.size wr w') : wF vars w hz hb B vv b3 v1 L1 xs1 bs1 v2 L2 xs2 bs2 w' :=
  ⟨(y.block _ (lt_of_block h.r0)).trans h.r0, (y.block _ (lt_of_block h.r1)).trans h.r1, h.h0, h.h1, h.hB, h.c1.below (iR _) y, h.c2.below (iR _) y, h.k1, h.k2, h.f12, h.f21, bP.below h.vs y, h.kv,
    h.bel.trans (y.mono h.bel.size), Nat.le_trans h.qE y.size⟩
theorem D.wF.lit {a:A} {y:Value} {b9:List Nat} {w2:World} {v:Value} {L:List Value} {n:Nat} (U:Below wr.heap.size wr w2) (hB:B≤wr.heap.size) (I:wr.ownsRow B 168 2 v n L) (a0:a.name.size≤maxLen) (hp:kV vars w2 [y] a.args b9) (h9:Value.oneCell' y=true):
  (w2.alloc (.cells #[.string a.name,y] 168)).ownsRow B 168 2 v n L∧
   Lies (w2.alloc (.cells #[.string a.name,y] 168)) (some ⟨w2.heap.size,0,none⟩) [.string a.name,y]∧(∀ u ∈ [.string a.name,y],Value.oneCell' u=true)∧B≤(w2.alloc (.cells #[.string a.name,y] 168)).heap.size:=by
 have hA:Below w2.heap.size w2 (w2.alloc (.cells #[.string a.name,y] 168)):=ζ;have hb:=U.trans (hA.mono U.size);refine ⟨own_below I hb,by have:=aP (ω w2 (.cells #[.string a.name,y] 168)); simpa using this,fun u J=>?_,τ hB hb.size⟩
 rcases ύ.1 J with rfl | J
 ·rfl
 ·rw [ώ.1 J]; exact h9
theorem D.wF.app1 {a:A} {U:Value} {b9:List Nat} {w2 w5:World} {A5:Option Addr} {c5:Nat} (h:wF vars w hz hb B vv b3 v1 L1 xs1 bs1 v2 L2 xs2 bs2 wr) (hk:Below wr.heap.size wr w2) (a7:a.name.size≤maxLen) (hp:kV vars w2 [U] a.args b9) (hn:New wr.heap.size w2 b9) (h9:Value.oneCell' U=true)
  (a5:w5.ownsRow B 168 2 (.slice A5 (xs1.length+1) c5) (xs1.length+1) (L1 ++ [.string a.name,U])) (hg:(w2.alloc (.cells #[.string a.name,U] 168)).grownBy w5 v1.ownBlock)
  (a2:(Value.slice A5 (xs1.length+1) c5).ownBlock=v1.ownBlock∨(Value.slice A5 (xs1.length+1) c5).ownBlock=some (w2.alloc (.cells #[.string a.name,U] 168)).heap.size):
  w5.cell? ⟨hb,0,none⟩=some v1∧w5.cell? ⟨hb,1,none⟩=some v2∧w5.cell? ⟨hb,2,none⟩=some vv∧w5.frozen? ⟨hb,0,none⟩=false∧
   wF vars w hz hb B vv b3 (.slice A5 (xs1.length+1) c5) (L1 ++ [.string a.name,U]) (xs1 ++ [a]) (bs1 ++ b9) v2 L2 xs2 bs2 (w5.setCell ⟨hb,0,none⟩ (.slice A5 (xs1.length+1) c5)):=by
 have hA:Below w2.heap.size w2 (w2.alloc (.cells #[.string a.name,U] 168)):=ζ;have a8:=hk.trans (hA.mono hk.size);have h2:=h.later a8;have ag:=h2.qE;have am:=hk.size;have a9:=h.hB;have aa:=h.h1;have ab:=h.h0;have ao:=h.qE;have g9:∀ b ∈ b9,wr.heap.size≤b∧b < w2.heap.size:=fun b hb=>⟨(hn.own b hb).1,hn.lt hb⟩
 have a0:∀ b,b < w2.heap.size+1→v1.ownBlock ≠ some b→w5.heap[b]? = (w2.alloc (.cells #[.string a.name,U] 168)).heap[b]?:=fun b hb a4=>hg.block b (by simpa using hb) (fun e=>a4 e.symm)
 have o1:∀ b,v1.ownBlock=some b→B≤b∧b < wr.heap.size:=fun b hb=>bH h.c1.own hb
 have o2:∀ b,v2.ownBlock=some b→B≤b∧b < wr.heap.size:=fun b hb=>bH h.c2.own hb
 have l1:∀ b ∈ bs1,b < wr.heap.size:=fun b hb=>h.c1.row.lt (iR _) b hb
 have l2:∀ b ∈ bs2,b < wr.heap.size:=fun b hb=>h.c2.row.lt (iR _) b hb
 have n1:v1.ownBlock ≠ some hb:=fun e=>by have:=(o1 _ e).1; omega
 have n0:v1.ownBlock ≠ some hz:=fun e=>by have:=(o1 _ e).1; omega
 have a1:=(a0 hb (by omega) n1).trans h2.r1;have ac:=(a0 hz (by omega) n0).trans h2.r0;have ae:Gj vars (w2.alloc (.cells #[.string a.name,U] 168)) [.string a.name,U] a b9:=⟨U,rfl,a7,(dw _).below hp hA⟩
 have af:aX 2 (Gj vars) B 168 w5 (.slice A5 (xs1.length+1) c5) (L1 ++ [.string a.name,U]) (xs1 ++ [a]) (bs1 ++ b9):=
  h2.c1.app (iR _) (aT.dJ (Io _) ae) (fun b hb e=>by have:=(o1 _ e).2; have:=(g9 b hb).1; omega) a5 hg a2
 have J:∀ b,b ≠ hb→(w5.setCell ⟨hb,0,none⟩ (.slice A5 (xs1.length+1) c5)).heap[b]? = w5.heap[b]?:=fun b a4=>π _ _ _ _ a4
 have a3:∀ b,(Value.slice A5 (xs1.length+1) c5).ownBlock=some b→v1.ownBlock=some b∨b=w2.heap.size+1:=fun b e=>by
  rcases a2 with I | I
  ·left; rw [← I]; exact e
  ·right; rw [I] at e; simp at e; omega
 refine ⟨ai a1,ai a1,ai a1,ax a1,⟨(J _ (by omega)).trans ac,?_,ab,aa,a9,?_,?_,?_,h.k2,?_,?_,?_,h.kv,?_,?_⟩⟩
 ·have:=bY (o:=0) (u:=.slice A5 (xs1.length+1) c5) a1
  simpa using this
 ·exact af.nU (iR _) (fun b e=>J b (fun e2=>by
   subst e2
   rcases a3 _ e with I | I
   ·exact n1 I
   ·omega)) (fun b y=>J b (fun e2=>by
   subst e2
   rcases μ.1 y with I | I
   ·have:=h.k1 _ I; omega
   ·have:=(g9 _ I).1; omega))
 ·refine (h2.c2.nU (iR _) (fun b e=>?_) (fun b y=>?_))
  ·have:=o2 _ e
   rw [J b (by omega)];exact a0 b (by omega) (fun e2=>(h.f12 b e2).1 e)
  ·have:=l2 _ y
   have:=h.k2 _ y;rw [J b (by omega)];exact a0 b (by omega) (fun e2=>(h.f12 b e2).2 y)
 ·intro b y
  rcases μ.1 y with I | I
  ·exact h.k1 _ I
  ·have:=(g9 _ I).1; omega
 ·intro b e
  rcases a3 _ e with I | I
  ·exact h.f12 b I
  ·exact ⟨fun e2=>by have:=(o2 _ e2).2; omega,fun e2=>by have:=l2 _ e2; omega⟩
 ·intro b e y
  rcases μ.1 y with I | I
  ·exact h.f21 b e I
  ·have:=(o2 _ e).2; have:=(g9 _ I).1; omega
 ·refine bP.keep h2.vs fun b y=>?_
  have:=h.kv b y;rw [J b (by omega)];exact a0 b (by omega) (fun e=>by have:=(o1 _ e).1; omega)
 ·have a6:Below w.heap.size w w5:=h2.bel.grown hg h2.bel.size fun k e=>by have:=(o1 _ e).1; omega
  exact a6.setCell (by show w.heap.size≤hb; omega) _
 ·have:=hg.size; simp [World.setCell]; simp at this; omega
theorem D.wF.Zc {a:A} {U:Value} {b9:List Nat} {w2 w5:World} {A5:Option Addr} {c5:Nat} (h:wF vars w hz hb B vv b3 v1 L1 xs1 bs1 v2 L2 xs2 bs2 wr) (hk:Below wr.heap.size wr w2) (a7:a.name.size≤maxLen) (hp:kV vars w2 [U] a.args b9) (hn:New wr.heap.size w2 b9) (h9:Value.oneCell' U=true)
  (a5:w5.ownsRow B 168 2 (.slice A5 (xs2.length+1) c5) (xs2.length+1) (L2 ++ [.string a.name,U])) (hg:(w2.alloc (.cells #[.string a.name,U] 168)).grownBy w5 v2.ownBlock)
  (a3:(Value.slice A5 (xs2.length+1) c5).ownBlock=v2.ownBlock∨(Value.slice A5 (xs2.length+1) c5).ownBlock=some (w2.alloc (.cells #[.string a.name,U] 168)).heap.size):
  w5.cell? ⟨hb,0,none⟩=some v1∧w5.cell? ⟨hb,1,none⟩=some v2∧w5.cell? ⟨hb,2,none⟩=some vv∧w5.frozen? ⟨hb,1,none⟩=false∧
   wF vars w hz hb B vv b3 v1 L1 xs1 bs1 (.slice A5 (xs2.length+1) c5) (L2 ++ [.string a.name,U]) (xs2 ++ [a]) (bs2 ++ b9) (w5.setCell ⟨hb,1,none⟩ (.slice A5 (xs2.length+1) c5)):=by
 have hA:Below w2.heap.size w2 (w2.alloc (.cells #[.string a.name,U] 168)):=ζ;have a8:=hk.trans (hA.mono hk.size);have h2:=h.later a8;have ag:=h2.qE;have am:=hk.size;have a9:=h.hB;have aa:=h.h1;have ab:=h.h0;have ao:=h.qE;have g9:∀ b ∈ b9,wr.heap.size≤b∧b < w2.heap.size:=fun b hb=>⟨(hn.own b hb).1,hn.lt hb⟩
 have a0:∀ b,b < w2.heap.size+1→v2.ownBlock ≠ some b→w5.heap[b]? = (w2.alloc (.cells #[.string a.name,U] 168)).heap[b]?:=fun b hb a4=>hg.block b (by simpa using hb) (fun e=>a4 e.symm)
 have o1:∀ b,v1.ownBlock=some b→B≤b∧b < wr.heap.size:=fun b hb=>bH h.c1.own hb
 have o2:∀ b,v2.ownBlock=some b→B≤b∧b < wr.heap.size:=fun b hb=>bH h.c2.own hb
 have l1:∀ b ∈ bs1,b < wr.heap.size:=fun b hb=>h.c1.row.lt (iR _) b hb
 have l2:∀ b ∈ bs2,b < wr.heap.size:=fun b hb=>h.c2.row.lt (iR _) b hb
 have n1:v2.ownBlock ≠ some hb:=fun e=>by have:=(o2 _ e).1; omega
 have n0:v2.ownBlock ≠ some hz:=fun e=>by have:=(o2 _ e).1; omega
 have a1:=(a0 hb (by omega) n1).trans h2.r1;have ac:=(a0 hz (by omega) n0).trans h2.r0;have ae:Gj vars (w2.alloc (.cells #[.string a.name,U] 168)) [.string a.name,U] a b9:=⟨U,rfl,a7,(dw _).below hp hA⟩
 have af:aX 2 (Gj vars) B 168 w5 (.slice A5 (xs2.length+1) c5) (L2 ++ [.string a.name,U]) (xs2 ++ [a]) (bs2 ++ b9):=
  h2.c2.app (iR _) (aT.dJ (Io _) ae) (fun b hb e=>by have:=(o2 _ e).2; have:=(g9 b hb).1; omega) a5 hg a3
 have J:∀ b,b ≠ hb→(w5.setCell ⟨hb,1,none⟩ (.slice A5 (xs2.length+1) c5)).heap[b]? = w5.heap[b]?:=fun b a4=>π _ _ _ _ a4
 have a2:∀ b,(Value.slice A5 (xs2.length+1) c5).ownBlock=some b→v2.ownBlock=some b∨b=w2.heap.size+1:=fun b e=>by
  rcases a3 with I | I
  ·left; rw [← I]; exact e
  ·right; rw [I] at e; simp at e; omega
 refine ⟨ai a1,ai a1,ai a1,ax a1,⟨(J _ (by omega)).trans ac,?_,ab,aa,a9,?_,?_,h.k1,?_,?_,?_,?_,h.kv,?_,?_⟩⟩
 ·have:=bY (o:=1) (u:=.slice A5 (xs2.length+1) c5) a1
  simpa using this
 ·refine (h2.c1.nU (iR _) (fun b e=>?_) (fun b y=>?_))
  ·have:=o1 _ e
   rw [J b (by omega)];exact a0 b (by omega) (fun e2=>(h.f12 b e).1 e2)
  ·have:=l1 _ y
   have:=h.k1 _ y;rw [J b (by omega)];exact a0 b (by omega) (fun e2=>h.f21 b e2 y)
 ·exact af.nU (iR _) (fun b e=>J b (fun e2=>by
   subst e2
   rcases a2 _ e with I | I
   ·exact n1 I
   ·omega)) (fun b y=>J b (fun e2=>by
   subst e2
   rcases μ.1 y with I | I
   ·have:=h.k2 _ I; omega
   ·have:=(g9 _ I).1; omega))
 ·intro b y
  rcases μ.1 y with I | I
  ·exact h.k2 _ I
  ·have:=(g9 _ I).1; omega
 ·intro b e
  refine ⟨fun e2=>?_,fun y=>?_⟩
  ·rcases a2 _ e2 with I | I
   ·exact (h.f12 b e).1 I
   ·have:=(o1 _ e).2; omega
  ·rcases μ.1 y with I | I
   ·exact (h.f12 b e).2 I
   ·have:=(o1 _ e).2; have:=(g9 _ I).1; omega
 ·intro b e y
  rcases a2 _ e with I | I
  ·exact h.f21 b I y
  ·have:=l1 _ y; omega
 ·refine bP.keep h2.vs fun b y=>?_
  have:=h.kv b y;rw [J b (by omega)];exact a0 b (by omega) (fun e=>by have:=(o2 _ e).1; omega)
 ·have a6:Below w.heap.size w w5:=h2.bel.grown hg h2.bel.size fun k e=>by have:=(o2 _ e).1; omega
  exact a6.setCell (by show w.heap.size≤hb; omega) _
 ·have:=hg.size; simp [World.setCell]; simp at this; omega
end
def D.JZ (vars:List ByteArray) (b:Bd) (i:Nat):ByteArray:=if h:i < vars.length then jB b vars[i] else ⟨#[]⟩
structure D.iM (vars:List ByteArray) (b:Bd) (blk o:Nat) (w:World):Prop where
 wd:∀ i,i < 12→w.cell? ⟨blk,o+i,none⟩=some (.string (JZ vars b i))
 bd:∀ i,i < 12→∃ z:Int,w.cell? ⟨blk,o+12+i,none⟩=some (.int .i64 z)∧∀ h:i < b.length,z=(vars.idxOf b[i].1:Nat)
 ct:w.cell? ⟨blk,o+24,none⟩=some (.int .i64 b.length)
 fz:∀ i,i < 25→w.frozen? ⟨blk,o+i,none⟩=false
structure D.jZ (vars:List ByteArray) (b:Bd):Prop where
 inn:∀ p ∈ b,p.1 ∈ vars
 once:(b.map (·.1)).Nodup
 full:∀ p ∈ b,p.2 ≠ ⟨#[]⟩
 size:∀ p ∈ b,p.2.size≤maxLen
structure D.kC (vars:List ByteArray):Prop where
 few:vars.length≤12
 once:vars.Nodup
theorem D.Bj {b:Bd} {n:ByteArray}:gI b n=none ↔ ∀ p ∈ b,p.1 ≠ n:=by
 induction b with
 | nil=>simp [gI]
 | cons p b ih=>
  rw [gI]
  split
  ·rename_i h; simp [h]
  ·rename_i h; simp [h,ih]
theorem D.yY {b:Bd} {n v:ByteArray} (h:gI b n=some v):(n,v) ∈ b:=by
 induction b with
 | nil=>simp [gI] at h
 | cons p b ih=>
  rw [gI] at h
  split at h
  ·rename_i e
   cases h;subst e;exact Γ
  ·exact Δ _ (ih h)
theorem D.Fg {b:Bd} {n v:ByteArray} (h:gI b n=none):gI (b ++ [(n,v)]) n=some v:=by rw [nR,h]; simp [gI]
theorem D.DT {b:Bd} {n m v:ByteArray} (h:n ≠ m):gI (b ++ [(n,v)]) m=gI b m:=by
 rw [nR];simp [gI,h]
theorem D.jZ.qQ {vars:List ByteArray} {b:Bd} (h:jZ vars b) (n:ByteArray):jB b n=⟨#[]⟩ ↔ gI b n=none:=by
 unfold jB
 cases hg:gI b n with
 | none=>simp
 | some v=>simp [h.full _ (yY hg)]
theorem D.jZ.len {vars:List ByteArray} {b:Bd} (h:jZ vars b):b.length≤vars.length:=by
 have:(b.map (·.1)).length≤vars.length:=qL h.once fun x y=>by
  obtain ⟨p,I,rfl⟩:=List.mem_map.1 y;exact h.inn p I
 simpa using this
theorem D.jZ.lt {vars:List ByteArray} {b:Bd} (h:jZ vars b) {n:ByteArray} (hn:n ∈ vars) (U:gI b n=none):b.length < vars.length:=by
 have y:(n :: b.map (·.1)).Nodup:=List.nodup_cons.2 ⟨fun hm=>by
  obtain ⟨p,I,e⟩:=List.mem_map.1 hm
  exact Bj.1 U p I e,h.once⟩
 have:(n :: b.map (·.1)).length≤vars.length:=qL y fun x J=>by
  rcases ύ.1 J with rfl | J
  ·exact hn
  ·obtain ⟨p,I,rfl⟩:=List.mem_map.1 J
   exact h.inn p I
 simp at this;omega
theorem D.jZ.snoc {vars:List ByteArray} {b:Bd} (h:jZ vars b) {n v:ByteArray} (hn:n ∈ vars) (U:gI b n=none) (hv:v ≠ ⟨#[]⟩) (hs:v.size≤maxLen):jZ vars (b ++ [(n,v)]):=by
 refine ⟨fun p I=>?_,?_,fun p I=>?_,fun p I=>?_⟩
 ·rcases μ.1 I with I | I
  ·exact h.inn p I
  ·rw [ώ.1 I]; exact hn
 ·rw [List.map_append]
  refine List.nodup_append.2 ⟨h.once,by simp,fun x hx y J e=>?_⟩;simp at J;obtain ⟨p,I,rfl⟩:=List.mem_map.1 hx;exact Bj.1 U p I (e.trans J)
 ·rcases μ.1 I with I | I
  ·exact h.full p I
  ·rw [ώ.1 I]; exact hv
 ·rcases μ.1 I with I | I
  ·exact h.size p I
  ·rw [ώ.1 I]; exact hs
theorem D.jZ.init {vars:List ByteArray} {b:Bd} {p:ByteArray × ByteArray} (h:jZ vars (b ++ [p])):jZ vars b∧p.1 ∈ vars∧gI b p.1=none:=by
 have y:=h.once;rw [List.map_append] at y;obtain ⟨I,_,J⟩:=List.nodup_append.1 y;exact ⟨⟨fun q hq=>h.inn q (Ξ _ hq),I,fun q hq=>h.full q (Ξ _ hq),fun q hq=>h.size q (Ξ _ hq)⟩,h.inn p (by simp),Bj.2 fun q hq e=>J q.1 (List.mem_map.2 ⟨q,hq,rfl⟩) p.1 (by simp) e⟩
theorem D.jZ.nil (vars:List ByteArray):jZ vars []:=⟨fun p h=>by simp at h,by simp,fun p h=>by simp at h,fun p h=>by simp at h⟩
theorem D.jZ.Sj {vars:List ByteArray} {b:Bd} (h:jZ vars b) {t:T} (y:t.var=false→t.name.size≤maxLen):(dO b t).name.size≤maxLen:=by
 unfold dO;cases hv:t.var
 ·simpa using y hv
 ·simp only [if_true,jB]
  cases hg:gI b t.name with
  | none=>decide
  | some v=>exact h.size _ (yY hg)
theorem D.MO {vars:List ByteArray} (hv:kC vars) {b:Bd} {n v:ByteArray} (hn:n ∈ vars) (J:gI b n=none) (i:Nat):
  JZ vars (b ++ [(n,v)]) i=if i=vars.idxOf n then v else JZ vars b i:=by
 have hl:=List.idxOf_lt_length_of_mem hn;unfold JZ;by_cases y:i < vars.length
 ·rw [dif_pos y,dif_pos y]
  split
  ·rename_i e
   subst e;have:vars[vars.idxOf n]=n:=List.getElem_idxOf y;unfold jB;rw [this,Fg J]; rfl
  ·rename_i e
   have I:n ≠ vars[i]:=fun U=>e (by rw [U]; exact (List.Nodup.idxOf_getElem hv.once i y).symm)
   unfold jB;rw [DT I]
 ·rw [dif_neg y,dif_neg y]
  split
  ·omega
  ·rfl
section
variable {vars:List ByteArray} {b:Bd} {blk o:Nat} {w:World}
theorem D.iM.keep {w':World} (h:iM vars b blk o w) (e:w'.heap[blk]? = w.heap[blk]?):iM vars b blk o w':=
 ⟨fun i y=>(World.cell?_of_block e).trans (h.wd i y),fun i y=>by obtain ⟨z,h1,I⟩:=h.bd i y; exact ⟨z,(World.cell?_of_block e).trans h1,I⟩,(World.cell?_of_block e).trans h.ct,fun i y=>(World.frozen?_of_block e).trans (h.fz i y)⟩
theorem D.iM.lt (h:iM vars b blk o w):blk < w.heap.size:=lt_of_cell h.ct
theorem D.kM (w:World) (b o:Nat) (v:Value) {u:Value} (h:w.cell? ⟨b,o,none⟩=some u) (q:Nat):(w.setCell ⟨b,o,none⟩ v).cell? ⟨b,q,none⟩=if q=o then some v else w.cell? ⟨b,q,none⟩:=by
 split
 ·rename_i e; subst e; exact World.cell?_setCell_same _ _ _ h
 ·rename_i e; exact World.cell?_setCell_other _ _ _ _ (fun y=>e (by injection y with _ e3 _; exact e3.symm))
theorem D.iM.bind (hv:kC vars) (h:iM vars b blk o w) (hb:jZ vars b) {n v:ByteArray} (hn:n ∈ vars) (hg:gI b n=none):
  iM vars (b ++ [(n,v)]) blk o (((w.setCell ⟨blk,o+vars.idxOf n,none⟩ (.string v)).setCell ⟨blk,o+12+b.length,none⟩ (.int .i64 (vars.idxOf n:Nat))).setCell ⟨blk,o+24,none⟩ (.int .i64 ((b ++ [(n,v)]).length:Nat))):=by
 have hl:=hb.lt hn hg;have hf:=hv.few;have hi:=List.idxOf_lt_length_of_mem hn;obtain ⟨z0,U,_⟩:=h.bd b.length (by omega);have c1:=D.kM w blk (o+vars.idxOf n) (.string v) (h.wd _ (by omega));have c2:=D.kM (w.setCell ⟨blk,o+vars.idxOf n,none⟩ (.string v)) blk (o+12+b.length) (.int .i64 (vars.idxOf n:Nat)) (u:=.int .i64 z0) (by rw [c1,if_neg (by omega)]; exact U)
 have c3:=D.kM ((w.setCell ⟨blk,o+vars.idxOf n,none⟩ (.string v)).setCell ⟨blk,o+12+b.length,none⟩ (.int .i64 (vars.idxOf n:Nat))) blk (o+24) (.int .i64 ((b ++ [(n,v)]).length:Nat)) (u:=.int .i64 b.length)
  (by rw [c2,if_neg (by omega),c1,if_neg (by omega)]; exact h.ct)
 refine ⟨fun i y=>?_,fun i y=>?_,?_,fun i y=>?_⟩
 ·rw [c3,if_neg (by omega),c2,if_neg (by omega),c1,MO hv hn hg]
  by_cases e:i=vars.idxOf n
  ·rw [if_pos (by omega),if_pos e]
  ·rw [if_neg (by omega),if_neg e]; exact h.wd i y
 ·rw [c3,if_neg (by omega),c2]
  by_cases e:i=b.length
  ·subst e
   rw [if_pos rfl];exact ⟨_,rfl,fun J=>by simp⟩
  ·rw [if_neg (by omega),c1,if_neg (by omega)]
   obtain ⟨z,h1,h2⟩:=h.bd i y;refine ⟨z,h1,fun J=>?_⟩;have I:i < b.length:=by simp at J; omega
   rw [h2 I,List.getElem_append_left I]
 ·rw [c3,if_pos rfl]
 ·simp only [World.frozen?_setCell]
  exact h.fz i y
theorem D.iM.unbind (hv:kC vars) {n v:ByteArray} (h:iM vars (b ++ [(n,v)]) blk o w) (hb:jZ vars (b ++ [(n,v)])):
  iM vars b blk o ((w.setCell ⟨blk,o+24,none⟩ (.int .i64 (b.length:Nat))).setCell ⟨blk,o+vars.idxOf n,none⟩ (.string ⟨#[]⟩)):=by
 obtain ⟨I,hn,J⟩:=hb.init;have hf:=hv.few;have U:=List.idxOf_lt_length_of_mem hn;dsimp only at hn J U;have c1:=D.kM w blk (o+24) (.int .i64 (b.length:Nat)) h.ct;have c2:=D.kM (w.setCell ⟨blk,o+24,none⟩ (.int .i64 (b.length:Nat))) blk (o+vars.idxOf n) (.string ⟨#[]⟩) (by rw [c1,if_neg (by omega)]; exact h.wd _ (by omega));refine ⟨fun i y=>?_,fun i y=>?_,?_,fun i y=>?_⟩
 ·rw [c2]
  by_cases e:i=vars.idxOf n
  ·rw [if_pos (by omega)]
   subst e;unfold JZ;rw [dif_pos U];have:vars[vars.idxOf n]=n:=List.getElem_idxOf U;rw [this,(I.qQ n).2 J]
  ·rw [if_neg (by omega),c1,if_neg (by omega),h.wd i y,MO hv hn J,if_neg e]
 ·rw [c2,if_neg (by omega),c1,if_neg (by omega)]
  obtain ⟨z,h1,h2⟩:=h.bd i y;refine ⟨z,h1,fun a0=>?_⟩;rw [h2 (by simp; omega),List.getElem_append_left a0]
 ·rw [c2,if_neg (by omega),c1,if_pos rfl]
 ·simp only [World.frozen?_setCell]
  exact h.fz i y
end
structure D.dK (blk o:Nat) (w w':World):Prop where
 grow:w.grownBy w' (some blk)
 rest:∀ q,(q < o∨o+25≤q)→w'.cell? ⟨blk,q,none⟩=w.cell? ⟨blk,q,none⟩
section
variable {blk o:Nat} {w w' w2:World}
theorem D.dK.refl (blk o:Nat) (w:World):dK blk o w w:=⟨⟨rfl,rfl,rfl,ν,fun _ _ _=>rfl⟩,fun _ _=>rfl⟩
theorem D.dK.trans (h:dK blk o w w') (k:dK blk o w' w2):dK blk o w w2:=
 ⟨⟨k.grow.os.trans h.grow.os,k.grow.tape.trans h.grow.tape,k.grow.output.trans h.grow.output,τ h.grow.size k.grow.size,fun i I y=>(k.grow.block i (κ I h.grow.size) y).trans (h.grow.block i I y)⟩,
  fun q hq=>(k.rest q hq).trans (h.rest q hq)⟩
theorem D.dK.of_below (h:Below w.heap.size w w') (hb:blk < w.heap.size):dK blk o w w':=
 ⟨⟨h.os,h.tape,h.output,h.size,fun i y _=>h.block i y⟩,fun q _=>World.cell?_of_block (h.block _ hb)⟩
theorem D.dK.put (w:World) (i:Nat) (I:i < 25) (v:Value):dK blk o w (w.setCell ⟨blk,o+i,none⟩ v):=
 ⟨⟨rfl,rfl,rfl,by simp [World.setCell],fun k _ y=>π _ _ _ _ (fun e=>y (by rw [e]))⟩,
  fun q hq=>World.cell?_setCell_other _ _ _ _ (fun e=>by injection e with _ e2 _; omega)⟩
theorem D.dK.keep {α:Type} {R:Rel α} (g:Good R) {cs:List Value} {x:α} {bs:List Nat} (h:dK blk o w w') (hr:R w cs x bs) (hb:blk ∉ bs):R w' cs x bs:=
 g.keep hr fun b y=>h.grow.block b (g.lt hr b y) (fun e=>hb (by injection e with e; rw [← e]; exact y))
theorem D.dK.block (h:dK blk o w w') {b:Nat} (hb:b < w.heap.size) (y:b ≠ blk):w'.heap[b]? = w.heap[b]?:=h.grow.block b hb (fun e=>y (by injection e))
end
theorem D.MP {vars:List ByteArray} {b:Bd} (hb:jZ vars b) (t f:T) (I fs:List T) (hc:t.var=false→t.name ≠ ⟨#[]⟩):
  cZ (t :: I) (f :: fs) b=if (dO b t).name=⟨#[]⟩ then cZ I fs (b ++ [(t.name,f.name)]) else if (dO b t).name=f.name then cZ I fs b else (b,false):=by
 obtain ⟨U,y⟩:=t;rw [cZ];unfold dO;cases U
 ·simp only [Bool.false_eq_true,if_false]
  rw [if_neg (hc rfl)]
 ·simp only [if_true]
  cases hg:gI b y with
  | none=>
   have:jB b y=⟨#[]⟩:=(hb.qQ y).2 hg;rw [if_pos this]
  | some v=>
   have e:jB b y=v:=by unfold jB; rw [hg]; rfl
   have J:v ≠ ⟨#[]⟩:=hb.full _ (yY hg);simp only [e];rw [if_neg J]
theorem D.Pv {vars:List ByteArray} {b:Bd} (hb:jZ vars b) {t:T} (hc:t.var=false→t.name ≠ ⟨#[]⟩) (h:(dO b t).name=⟨#[]⟩):t.var=true∧gI b t.name=none:=by
 unfold dO at h;cases hv:t.var
 ·simp [hv] at h; exact absurd h (hc hv)
 ·simp [hv] at h; exact ⟨rfl,(hb.qQ _).1 h⟩
end
end Go.Proofs.YtkjinanbccloeaaGreatDoor
