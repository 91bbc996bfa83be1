/- Of the proof of FnEvalOnly: Draw5, Laid, StoR, OncV. -/
import Derived.Test.YtkjinanbccloeaaGreatDoorB24
import Derived.Test.YtkjinanbccloeaaGreatDoorB26
set_option linter.unusedVariables false
set_option maxHeartbeats 4000000
set_option maxRecDepth 100000
namespace Go.Proofs.YtkjinanbccloeaaGreatDoor
section
open Go.RowKit D
attribute [local go_sem ↓] Go.wp_at_zero Go.wp_at_succ
theorem D.Kz:∀ {xs:List A} {a:A},fK (xs ++ [a])=true→∀ x ∈ xs,dD x a < 0
 | [],_,_,x,I=>by simp at I
 | y :: ys,a,h,x,I=>by
  rcases List.mem_cons.1 I with rfl | I
  ·exact kM h a (by simp)
  ·exact Kz (xs:=ys) (lD h) x I
theorem D.TN {xs:List A} {a:A} (h:fK (xs ++ [a])=true):dP xs a=xs ++ [a]:=by
 have I:=Kz h
 have h1:hasB xs a=false:=by
  unfold hasB;rw [List.any_eq_false];intro x y;have:=I x y;simp; omega
 have J:pl xs a=xs.length:=by
  unfold pl;rw [List.countP_eq_length];intro x y;unfold ER;exact decide_eq_true (I x y)
 unfold dP;rw [h1,J];simp
def D.vd (d:Nat):ByteArray:=⟨#[118,UInt8.ofNat (48+d)]⟩
def D.WZ (j:Nat):A:=⟨⟨#[101]⟩,[⟨false,vd (j / 6)⟩,⟨false,vd (j % 6)⟩]⟩
def D.kG (n:Nat):List A:=(List.range n).map WZ
theorem D.TP:fK (kG 42)=true:=by decide +kernel
theorem D.yw (n:Nat):kG (n+1)=kG n ++ [WZ n]:=by unfold kG; rw [List.range_succ,List.map_append]; rfl
theorem D.og (n:Nat):(kG n).length=n:=by simp [kG]
theorem D.KA : ∀ (d n : Nat), n + d = 42 → fK (kG n) = true
  | 0, n, h => by have : n = 42 := by omega
                  rw [this]; exact TP
  | d + 1, n, h => by
    have := KA d (n + 1) (by omega);rw [yw] at this;exact IW this
theorem D.Oz {n:Nat} (h:n≤42):fK (kG n)=true:=KA (42 - n) n (by omega)
theorem D.TQ {n:Nat} (h:n < 42):dP (kG n) (WZ n)=kG (n+1):=by
 rw [yw];exact TN (by rw [← yw]; exact Oz h)
theorem D.qi (n:Nat):∀ a ∈ kG n,a.args.length≤4:=by
 intro a ha;unfold kG at ha;obtain ⟨j,_,rfl⟩:=List.mem_map.1 ha;simp [WZ]
theorem KC (w:World) (n:Int):(convert 22 9 (.slice (some ⟨w.heap.size,0,none⟩) 1 1)).run Tryz.prog (w.alloc (.cells #[.int .u8 n] 5))=.ok (.string (strOfNums [n])) (w.alloc (.cells #[.int .u8 n] 5)):=
 run_convert_bytes_arg _ 22 5 Tryz.underlying22 Tryz.underlying5 w.heap.size 0 1 1 [n] rfl (fun i y=>by
  obtain rfl:i=0:=by omega
  simp) 9 Tryz.underlying9
theorem OA (w:World) (y I:ByteArray) (h1:y.size≤100) (J:I.size≤100):∃ bs,eP (w.alloc (.cells #[.bool false,.string y,.bool false,.string I] 91)) [.slice (some ⟨w.heap.size,0,none⟩) 2 2] [⟨false,y⟩,⟨false,I⟩] bs∧∀ c ∈ bs,w.heap.size≤c:=by
 have U:y.size≤maxLen:=τ h1 (by decide);have m2:I.size≤maxLen:=τ J (by decide);have h:=((aQ.dh (n:=2) (R:=jb) (w:=w.alloc (.cells #[.bool false,.string y,.bool false,.string I] 91)) jE (cs:=[.bool false,.string y]) (x:=⟨false,y⟩) (bs:=[]) ⟨rfl,U,rfl⟩).append (aQ.dh (n:=2) (R:=jb) jE (cs:=[.bool false,.string I]) (x:=⟨false,I⟩) (bs:=[]) ⟨rfl,m2,rfl⟩)).slice (World.ownsRow_lit (base:=w.heap.size) (e:=91) w #[.bool false,.string y,.bool false,.string I] 2 ν (by unfold maxLen; omega) rfl);obtain ⟨bs,h,J⟩:=h;exact ⟨bs,h,fun c hc=>(J c hc).elim id (fun hc=>by simp at hc)⟩
def NG (g p q:Nat) (w:World) (e:Ending) (w':World):Prop:=
 ∃ (xs:List A) (v:Value) (bs:List Nat) (y:Nat),e=.returned v∧(aU w' [v] xs bs∧∀ b ∈ bs,w.heap.size≤b)∧xs.length≤50∧(∀ a ∈ xs,a.args.length≤4)∧kH g y w'∧y≤p+q∧aH [g] w w'
theorem rH (i:Nat) (w:World) (h:i < 7):Calls Tryz.prog 50 #[.int .i64 i] w fun e w'=>e=.returned (.string ⟨#[UInt8.ofNat (48+i)]⟩)∧Below w.heap.size w w':=by
 have I:=KC;have y:i=0∨i=1∨i=2∨i=3∨i=4∨i=5∨i=6:=by omega
 rcases y with rfl | rfl | rfl | rfl | rfl | rfl | rfl
 all_goals
  go_enter Tryz.func50,Tryz.ntmps50
  go_wp2;go_ret;exact ⟨rfl,ζ⟩
theorem zM (g p:Nat) (w:World) (h:kH g p w) (hp:p≤600000):
  Calls Tryz.prog 100 #[.pointer (some ⟨g,0,none⟩)] w (NG g p 200 w):=by
 obtain ⟨i0,hi,bv,az,aD⟩:=info_parts Qg;have hf:=wW g p 9 w h (by omega) (by omega) (by omega);have ck:=η hp;clear h hp
 go_enter Tryz.func100,Tryz.ntmps100
 go_wp2_with fail
 refine hf.mono ?_;rintro e w1 ⟨xs,v,p1,rfl,hs,hx,bw,cl,hF⟩;obtain ⟨Av,cv,rfl⟩:=hF.shape;have HF:=η hF;have HX:Hid (fK xs=true∧xs.length≤9∧(∀ a ∈ xs,a.args.length≤3)∧p1≤p+72∧p≤600000):=η ⟨hs,hx,bw,by omega,ck.out⟩;have a9:=pick_any g p1 20 w1 hF.rdr (by have:=HX.out; omega) (by omega) (by omega);have bx:Hid (xs.length+1≤maxLen):=η (by unfold maxLen; omega);have bz:Hid ((xs.length+1) * 40≤140737488355328):=η (by omega);clear hf hF hs hx bw cl
 go_wp2_with fail
 refine a9.mono ?_;rintro e w2 ⟨j,rfl,hj,bA,bB⟩;have I:=η (HF.out.call bA (aH.dM bB));clear a9 bA bB HF;by_cases cn:j=0
 ·subst cn
  have hc:=CP g (p1+1) w2 I.out.rdr (by have:=HX.out; omega)
  go_wp2_with fail
  refine hc.mono ?_;rintro e w3 ⟨a,v3,L3,p3,rfl,aa,aM,a4,a2,aR,ab⟩;obtain ⟨b3,ac,a3⟩:=a4.slice;obtain ⟨A3,c3,rfl⟩:=fE a4.own;have J:=η (I.out.call a2 ab);have b1:Hid (aG w3 [.string a.name,.slice A3 a.args.length c3] a b3):=η ⟨_,rfl,Sm.max aa,ac⟩;have ae:Hid (a.args.length≤4∧p3≤p1+1+20):=η (by omega);obtain ⟨LL,bb,a5,af⟩:=J.out.coll;have b2:=η af;have bc:Hid (∀ c ∈ b3,w.heap.size≤c):=η (fun c hc=>τ I.out.kept.size ((a3 c hc).resolve_right (by simp)));clear af;have HC:=η a5;have U:Below w3.heap.size w3 (w3.alloc (.cells #[.string a.name,.slice A3 a.args.length c3] 33)):=ζ;have bg:=η (a5.below aj U);have bh:=η (aQ.dh (n:=2) (R:=aG) eU (aj.below b1.out U));have ag:=η (aS (ω w3 (.cells #[.string a.name,.slice A3 a.args.length c3] 33)));have bi:Hid (∀ c ∈ b3,(Value.slice Av xs.length cv).ownBlock ≠ some c):=η (fun c hc=>by obtain ⟨_,_,h2,_⟩:=I.out.coll; exact jM h2.own ((a3 c hc).resolve_right (by simp)))
  have bj:Hid (w.heap.size≤(w3.alloc (.cells #[.string a.name,.slice A3 a.args.length c3] 33)).heap.size):=η (τ J.out.kept.size U.size);have bk:=η U;clear hc a4 a2 ab ac aa aM aR a5 U
  go_wp2_with (at_builtin; refine bW rfl _ _ _ rfl w.heap.size 33 i0 (.agg #[.string ⟨#[]⟩,.slice none 0 0]) 2 40 Tryz.underlying24 hi bv az aD rfl (by omega) aj (.slice Av xs.length cv) xs.length LL xs bb rfl bg.out rfl (some ⟨w3.heap.size,0,none⟩) 1 1 _ [a] b3 rfl bh.out rfl ag.out bi.out bx.out bz.out w3 w.heap.size (bk.out.mono J.out.kept.size) ν bj.out ?_; intro A4 c4 w4 am a6 bl a7)
  obtain ⟨b5,ao,ap⟩:=am.slice;have HD:Hid (NG g p 200 w (.returned (.slice A4 (xs.length+1) c4)) w4):=η ⟨xs ++ [a],_,b5,p3,rfl,⟨ao,fun c hc=>(ap c hc).elim id (fun hc=>(μ.1 hc).elim (b2.out c) (bc.out c))⟩,by have:=HX.out; simp; omega,fun y hy=>by rcases μ.1 hy with hy | hy; exact Nat.le_succ_of_le (HX.out.2.2.1 y hy); rw [List.mem_singleton.1 hy]; exact ae.out.1,J.out.rdr.fM a6 J.out.glt,by have:=HX.out; have:=ae.out; omega,J.out.kept.fM a6 ν⟩;clear am a6 bl a7 ao ap;go_wp2;go_ret;exact HD.out
 have cK:((j:Int) == 0)=false:=beq_eq_false_iff_ne.2 (by omega);by_cases co:j=1
 ·subst co
  have hc:=zl g (p1+1) w2 I.out.rdr (by have:=HX.out; omega)
  go_wp2_with fail
  refine hc.mono ?_;rintro e w3 ⟨a,v3,L3,p3,rfl,aa,aM,a4,a2,aR,ab⟩;obtain ⟨b3,ac,a3⟩:=a4.slice;obtain ⟨A3,c3,rfl⟩:=fE a4.own;have J:=η (I.out.call a2 ab);have b1:Hid (aG w3 [.string a.name,.slice A3 a.args.length c3] a b3):=η ⟨_,rfl,Sm.max aa,ac⟩;have ae:Hid (a.args.length≤4∧p3≤p1+1+20):=η (by omega);obtain ⟨LL,bb,a5,af⟩:=J.out.coll;have b2:=η af;have bc:Hid (∀ c ∈ b3,w.heap.size≤c):=η (fun c hc=>τ I.out.kept.size ((a3 c hc).resolve_right (by simp)));clear af;have HC:=η a5;have U:Below w3.heap.size w3 (w3.alloc (.cells #[.string a.name,.slice A3 a.args.length c3] 33)):=ζ;have bg:=η (a5.below aj U);have bh:=η (aQ.dh (n:=2) (R:=aG) eU (aj.below b1.out U));have ag:=η (aS (ω w3 (.cells #[.string a.name,.slice A3 a.args.length c3] 33)));have bi:Hid (∀ c ∈ b3,(Value.slice Av xs.length cv).ownBlock ≠ some c):=η (fun c hc=>by obtain ⟨_,_,h2,_⟩:=I.out.coll; exact jM h2.own ((a3 c hc).resolve_right (by simp)))
  have bj:Hid (w.heap.size≤(w3.alloc (.cells #[.string a.name,.slice A3 a.args.length c3] 33)).heap.size):=η (τ J.out.kept.size U.size);have bk:=η U;clear hc a4 a2 ab ac aa aM aR a5 U
  go_wp2_with (at_builtin; refine bW rfl _ _ _ rfl w.heap.size 33 i0 (.agg #[.string ⟨#[]⟩,.slice none 0 0]) 2 40 Tryz.underlying24 hi bv az aD rfl (by omega) aj (.slice Av xs.length cv) xs.length LL xs bb rfl bg.out rfl (some ⟨w3.heap.size,0,none⟩) 1 1 _ [a] b3 rfl bh.out rfl ag.out bi.out bx.out bz.out w3 w.heap.size (bk.out.mono J.out.kept.size) ν bj.out ?_; intro A4 c4 w4 am a6 bl a7)
  obtain ⟨b5,ao,ap⟩:=am.slice;have HD:Hid (NG g p 200 w (.returned (.slice A4 (xs.length+1) c4)) w4):=η ⟨xs ++ [a],_,b5,p3,rfl,⟨ao,fun c hc=>(ap c hc).elim id (fun hc=>(μ.1 hc).elim (b2.out c) (bc.out c))⟩,by have:=HX.out; simp; omega,fun y hy=>by rcases μ.1 hy with hy | hy; exact Nat.le_succ_of_le (HX.out.2.2.1 y hy); rw [List.mem_singleton.1 hy]; exact ae.out.1,J.out.rdr.fM a6 J.out.glt,by have:=HX.out; have:=ae.out; omega,J.out.kept.fM a6 ν⟩;clear am a6 bl a7 ao ap;go_wp2;go_ret;exact HD.out
 have cL:((j:Int) == 1)=false:=beq_eq_false_iff_ne.2 (by omega)
 have aq:Hid (NG g p 200 w (.returned (.slice Av xs.length cv)) w2):=η (by
  obtain ⟨b9,h9,cp⟩:=I.out.atoms
  exact ⟨xs,_,b9,p1+1,rfl,⟨h9,cp⟩,by have:=HX.out; omega,fun y hy=>Nat.le_succ_of_le (HX.out.2.2.1 y hy),I.out.rdr,by have:=HX.out; omega,I.out.kept⟩)
 by_cases bn:j=2
 ·subst bn
  clear aq;obtain ⟨bt,ht,ar⟩:=OA w2 ⟨#[97]⟩ ⟨#[98]⟩ (by decide) (by decide);have bo:Hid (∀ c ∈ bt,w.heap.size≤c):=η (fun c hc=>τ I.out.kept.size (ar c hc));clear ar;have a8:Below w2.heap.size w2 (w2.alloc (.cells #[.bool false,.string ⟨#[97]⟩,.bool false,.string ⟨#[98]⟩] 91)):=ζ;have J:=η (I.out.below a8);obtain ⟨b3,bE,bL⟩:=J.out.atoms;have bp:=η bL;clear bL;have a1:=sK xs ⟨⟨#[112]⟩,[⟨false,⟨#[97]⟩⟩,⟨false,⟨#[98]⟩⟩]⟩ _ _ _ b3 bt _ bE ⟨_,rfl,by decide,ht⟩ HX.out.1 (by have:=HX.out; omega);clear bE ht a8
  go_wp2_with fail
  refine a1.mono ?_;rintro e w3 ⟨cq,v3,b4,rfl,a2,ho⟩;have aE:=η (J.out.put (xs':=dP xs ⟨⟨#[112]⟩,[⟨false,⟨#[97]⟩⟩,⟨false,⟨#[98]⟩⟩]⟩) cq (fun y hy=>by rcases sD hy with hy | rfl; exact Nat.le_succ_of_le (HX.out.2.2.1 y hy); decide) ho (fun c hc=>(μ.1 hc).elim (bp.out c) (bo.out c)));obtain ⟨b8,h8,bO⟩:=aE.out.atoms;have HD:Hid (NG g p 200 w (.returned v3) w3):=η ⟨_,_,b8,p1+1,rfl,⟨h8,bO⟩,by have:=oD xs ⟨⟨#[112]⟩,[⟨false,⟨#[97]⟩⟩,⟨false,⟨#[98]⟩⟩]⟩; have:=HX.out; omega,aE.out.small,aE.out.rdr,by have:=HX.out; omega,aE.out.kept⟩;obtain ⟨A3,c3,rfl,_,_⟩:=ak a2;clear a1 a2 ho J h8 bO;go_wp2;go_ret;exact HD.out
 have cP:((j:Int) == 2)=false:=beq_eq_false_iff_ne.2 (by omega);by_cases cu:j=3
 ·subst cu
  clear aq;have a8:Below w2.heap.size w2 (w2.alloc (.cells #[] 33)):=ζ;have bR:Hid (nR g (p1+1) w (kG 0) (.slice (some ⟨w2.heap.size,0,none⟩) 0 0) (w2.alloc (.cells #[] 33))):=η ⟨⟨_,_,aZ.empty (ω w2 _) I.out.kept.size,fun b hb=>by simp at hb⟩,qi 0,I.out.rdr.below a8,I.out.kept.fM a8 I.out.kept.size,I.out.glt⟩;clear a8 I hj;go_wp2
  go_loopw [4,5] (fun m i wr=>∃ (n l:Nat) (Am:Option Addr) (cm:Nat),n≤7∧i=.int .i64 n∧m=.slice Am l cm∧l=6 * n∧nR g (p1+1) w (kG (6 * n)) (.slice Am l cm) wr) (fun _ i _=>7 - (intOf i).toNat)
  case atStart=>exact ⟨0,0,_,_,by omega,rfl,rfl,rfl,bR.out⟩
  case round=>
   obtain ⟨n,l,Am,cm,hn,rfl,rfl,bX,hF⟩:=hrel;have HM:=η hF;have HL:=η bX;clear hF bX bR;by_cases bq:n < 7
   ·have cw:(n:Int) < 7:=by omega
    have HN:=η bq;have cx:Hid (∃ (k l:Nat) (Am:Option Addr) (cm:Nat),k≤6∧l=6 * n+k∧k=0∧nR g (p1+1) w (kG (6 * n+k)) (.slice Am l cm) wr):=η ⟨0,l,Am,cm,by omega,HL.out,rfl,HM.out⟩;clear hn bq;go_wp2
    go_loopw [4,6] (fun m i wr=>∃ (k l:Nat) (Am:Option Addr) (cm:Nat),k≤6∧i=.int .i64 k∧m=.slice Am l cm∧l=6 * n+k∧nR g (p1+1) w (kG (6 * n+k)) (.slice Am l cm) wr) (fun _ i _=>6 - (intOf i).toNat)
    case atStart=>exact ⟨0,l,Am,cm,by omega,rfl,rfl,HL.out,HM.out⟩
    case round=>
     obtain ⟨k,l2,cy,cz,hk,rfl,rfl,aL,c5⟩:=hrel;have a0:=η c5;have ag:=η aL;clear c5 aL HM cx HL;by_cases br:k < 6
     ·have cA:(k:Int) < 6:=by omega
      have HK:=η br;clear hk br;have c7:=fun w'=>(rH n w' HN.out).mono (R':=fun e av=>∃ s:ByteArray,e=.returned (.string s)∧Hid (s=⟨#[UInt8.ofNat (48+n)]⟩)∧s.size=1∧Below w'.heap.size w' av) (fun e av ⟨h1,h2⟩=>⟨_,h1,η rfl,rfl,h2⟩)
      have c8:=fun w'=>(rH k w' (by have:=HK.out; omega)).mono (R':=fun e av=>∃ s:ByteArray,e=.returned (.string s)∧Hid (s=⟨#[UInt8.ofNat (48+k)]⟩)∧s.size=1∧Below w'.heap.size w' av) (fun e av ⟨h1,h2⟩=>⟨_,h1,η rfl,rfl,h2⟩)
      go_wp2_with fail
      refine (c7 _).mono ?_;rintro e w4 ⟨s1,rfl,cB,az,c9⟩;replace a0:=η (a0.out.below c9);have cT:((⟨#[118]⟩:ByteArray) ++ s1).size=2:=by rw [ByteArray.size_append,az]; rfl
      clear c7 c9
      go_wp2_with fail
      refine (c8 _).mono ?_;rintro e w5 ⟨s2,rfl,cD,aD,ca⟩;replace a0:=η (a0.out.below ca);have cU:((⟨#[118]⟩:ByteArray) ++ s2).size=2:=by rw [ByteArray.size_append,aD]; rfl
      have HE:Hid (WZ (6 * n+k)=⟨⟨#[101]⟩,[⟨false,(⟨#[118]⟩:ByteArray) ++ s1⟩,⟨false,(⟨#[118]⟩:ByteArray) ++ s2⟩]⟩):=η (by
       have e1:(6 * n+k) / 6=n:=by have:=HK.out; omega
       have e2:(6 * n+k) % 6=k:=by have:=HK.out; omega
       have e3:(⟨#[118]⟩:ByteArray) ++ s1=vd n:=by rw [cB.out]; exact WideShapes.bytes_inj (by rw [ByteArray.data_append,Array.toList_append]; rfl)
       have e4:(⟨#[118]⟩:ByteArray) ++ s2=vd k:=by rw [cD.out]; exact WideShapes.bytes_inj (by rw [ByteArray.data_append,Array.toList_append]; rfl)
       unfold WZ; rw [e1,e2,e3,e4])
      obtain ⟨bt,ht,ar⟩:=OA w5 ((⟨#[118]⟩:ByteArray) ++ s1) ((⟨#[118]⟩:ByteArray) ++ s2) (by omega) (by omega);have cb:Below w5.heap.size w5 (w5.alloc (.cells #[.bool false,.string ((⟨#[118]⟩:ByteArray) ++ s1),.bool false,.string ((⟨#[118]⟩:ByteArray) ++ s2)] 91)):=ζ;have bo:Hid (∀ c ∈ bt,w.heap.size≤c):=η (fun c hc=>τ a0.out.kept.size (ar c hc));clear ar;replace a0:=η (a0.out.below cb);obtain ⟨b6,h6,cc⟩:=a0.out.atoms;have bp:=η cc;clear cc;have a1:=sK (kG (6 * n+k)) (WZ (6 * n+k)) _ (.string ⟨#[101]⟩) (.slice (some ⟨w5.heap.size,0,none⟩) 2 2) b6 bt _ h6 (by rw [HE.out]; exact ⟨_,rfl,(show (1:Nat)≤maxLen by decide),ht⟩) (Oz (by have:=HK.out; have:=HN.out; omega)) (by rw [og]; have:=HK.out; have:=HN.out; omega);rw [TQ (by have:=HK.out; have:=HN.out; omega)] at a1;clear c8 ca ht cb h6
      go_wp2_with fail
      refine a1.mono ?_;rintro e w6 ⟨cE,v6,b7,rfl,cd,ho⟩;have cG:=η (a0.out.put cE (qi _) ho (fun c hc=>(μ.1 hc).elim (bp.out c) (bo.out c)));obtain ⟨A6,c6,rfl,_,_⟩:=ak cd;clear a1 cd ho a0;go_wp2;go_roundw
      case rel=>exact ⟨k+1,_,A6,c6,HK.out,by go_num,rfl,by rw [og]; omega,cG.out⟩
      case measure=>have:=HK.out; simp [intOf]; omega
     ·have cA:¬ (k:Int) < 6:=by omega
      obtain rfl:k=6:=by omega
      clear hk br;go_wp2;go_roundw
      case rel=>exact ⟨n+1,l2,cy,cz,HN.out,by go_num,rfl,by have:=ag.out; omega,by rw [show 6 * (n+1)=6 * n+6 by omega]; exact a0.out⟩
      case measure=>have:=HN.out; simp [intOf]; omega
   ·skip
    have cw:¬ (n:Int) < 7:=by omega
    obtain rfl:n=7:=by omega
    clear hn bq;have a9:=pick_any g (p1+1) 2 wr HM.out.rdr (by have:=HX.out; omega) (by omega) (by omega)
    go_wp2_with fail
    refine a9.mono ?_;rintro e w4 ⟨j2,rfl,bn,ce,a7⟩;have aw:=η (HM.out.call ce (aH.dM a7));obtain ⟨b5,h5,cg⟩:=aw.out.atoms;have ci:=HL.out;subst ci
    have bu:42≤cm∧cm≤maxLen:=by
     obtain ⟨A',c',e',cj,cI,_⟩:=h5;simp only [List.cons.injEq,Value.slice.injEq,and_true] at e';obtain ⟨_,_,rfl⟩:=e';rw [og] at cj;exact ⟨cj,cI⟩
    have cV:=aA bu.2;have cW:=bu.1;have hj:j2=0∨j2=1:=by omega
    have HT:Hid (∀ d,d≤42→∃ b6,aU w4 [.slice Am d cm] ((kG 42).take d) b6∧∀ c ∈ b6,w.heap.size≤c):=η (fun d hd=>by obtain ⟨b6,h6,cJ⟩:=I7 h5 (k:=d) (by rw [og]; exact hd); exact ⟨b6,h6,fun c hc=>cg c (cJ c hc)⟩);clear a9 ce a7 h5 cg HM bu HL bn
    rcases hj with rfl | rfl
    ·have hz:(40:Int)≤(cm:Int):=by omega
     obtain ⟨b6,h6⟩:=HT.out 40 (by omega);have HD:Hid (NG g p 200 w (.returned (.slice Am 40 cm)) w4):=η ⟨_,_,b6,p1+1+1,rfl,h6,by simp [kG],fun y hy=>qi 42 y (List.mem_of_mem_take hy),aw.out.rdr,by have:=HX.out; omega,aw.out.kept⟩;clear h6 HT;go_wp2;go_ret;exact HD.out
    ·have hz:(41:Int)≤(cm:Int):=by omega
     obtain ⟨b6,h6⟩:=HT.out 41 (by omega);have HD:Hid (NG g p 200 w (.returned (.slice Am 41 cm)) w4):=η ⟨_,_,b6,p1+1+1,rfl,h6,by simp [kG],fun y hy=>qi 42 y (List.mem_of_mem_take hy),aw.out.rdr,by have:=HX.out; omega,aw.out.kept⟩;clear h6 HT;go_wp2;go_ret;exact HD.out
 have cQ:((j:Int) == 3)=false:=beq_eq_false_iff_ne.2 (by omega);go_wp2;go_ret;exact aq.out
end
section
open Go.ChangeShapes Go.WideShapes Go.RowKit D
theorem Xa : Tryz.prog.globalNamed "errors.errorType" = some 1 := by kernel_rfl
theorem Xb : (Tryz.prog.cutTypes.find? (·.1 == "internal/reflectlite.rtype")).map (·.2) = some 350 := by kernel_rfl
theorem TR:Tryz.prog.types.size=401:=by kernel_rfl
theorem NH:((List.range 401).filter fun t=>Tryz.prog.rowNamed t [101,114,114,111,114]) = [186]:=by kernel_rfl
theorem handle_of_laid {W : World} (h : laidMetH Tryz.prog [("errors.errorType", Rows.laid_errors_errorType)] W) : oV W := by
 have I : laidMet Tryz.prog [] W ∧ handlesMet Tryz.prog [("errors.errorType", Rows.laid_errors_errorType)] W := h
 obtain ⟨name,u,J,U,e2,e3,e4,y⟩:=I.2 _ (List.mem_singleton.2 rfl);have en:name = [101,114,114,111,114]:=(Option.some.inj U).symm;subst en;obtain rfl:=Option.some.inj (Xb.symm.trans e2);have hm:J ∈ (List.range 401).filter fun t=>Tryz.prog.rowNamed t [101,114,114,111,114]:=List.mem_filter.2 ⟨List.mem_range.2 (by rw [← TR]; exact e3),e4⟩
 rw [NH] at hm;obtain rfl:=List.mem_singleton.1 hm;have hh:typeHandle Tryz.prog 186=.pointer (some ⟨2,186,none⟩):=by kernel_rfl
 rw [hh] at y;unfold oV;simpa using World.var?_cell Xa y 0
noncomputable def laidWorld (os:Os):World:=
 let w0:=World.holding Tryz.prog os ⟨#[],#[],[]⟩
 { w0 with heap:=w0.heap.modify 1 fun
  | .cells _ t frozen=>.cells #[.iface 350 (.agg #[.pointer (some ⟨2,186,none⟩)])] t frozen
  | o=>o }
theorem laidWorld_met (os : Os) (args : Array Value) : laidMetH Tryz.prog [("errors.errorType", Rows.laid_errors_errorType)] ((laidWorld os).forCall (fun _ _ => 0) ⟨#[], args, []⟩).memory :=
 laidMetH_of_parts (laidMet_nil _ _) (by kernel_rfl)
end
section
open Go.RowKit D
structure D.kK (B sb mu mp:Nat) (Af:Option Addr) (nf cf:Nat) (Lf:List Value) (fs:List A) (bf:List Nat) (Ar:Option Addr) (nr cr:Nat) (Lr:List Value) (rn:List Nat) (Lp:List (Value × Value)) (G:WK→List Nat) (ou:List Nat) (w:World):Prop where
 blk:w.heap[sb]? = some (.cells #[.slice Af nf cf,.slice Ar nr cr,.map (some mu),.map (some mp)] 127 (0,0))
 ef:nf=fs.length
 er:nr=rn.length
 cF:aZ 2 aG B 33 w (.slice Af nf cf) Lf fs bf
 cR:aZ 1 wM B 3 w (.slice Ar nr cr) Lr rn []
 un:rG B mu G ou w
 pl:gm isStr mp Lp w
 dFR:WX (.slice Af nf cf) (.slice Ar nr cr)
 dF:∀ x ∈ ou,(Value.slice Af nf cf).ownBlock ≠ some x
 dR:∀ x ∈ ou,(Value.slice Ar nr cr).ownBlock ≠ some x
 bfs:∀ x ∈ bf,x ≠ sb∧x ≠ mu∧x ≠ mp∧x ∉ ou∧(Value.slice Ar nr cr).ownBlock ≠ some x
 lo:sb < B∧mu < B∧mp < B∧sb ≠ mu∧sb ≠ mp∧mu ≠ mp
 ous:∀ x ∈ ou,B≤x∧x < w.heap.size
 oC:B≤w.heap.size
structure D.Free (B sb mu mp:Nat) (vF vR:Value) (ou:List Nat) (b:Nat):Prop where
 f:vF.ownBlock ≠ some b
 r:vR.ownBlock ≠ some b
 u:b ∉ ou
 s:b ≠ sb∧b ≠ mu∧b ≠ mp
section
variable {B sb mu mp:Nat} {Af:Option Addr} {nf cf:Nat} {Lf:List Value} {fs:List A} {bf:List Nat} {Ar:Option Addr} {nr cr:Nat} {Lr:List Value} {rn:List Nat} {Lp:List (Value × Value)} {G:WK→List Nat} {ou:List Nat} {w w':World}
theorem D.kK.later (h:kK B sb mu mp Af nf cf Lf fs bf Ar nr cr Lr rn Lp G ou w) (y:Below w.heap.size w w'):kK B sb mu mp Af nf cf Lf fs bf Ar nr cr Lr rn Lp G ou w':=by
 obtain ⟨U,l2,l3,_⟩:=h.lo;have J:=h.oC;exact ⟨(y.block _ (by omega)).trans h.blk,h.ef,h.er,h.cF.below aj y,h.cR.below iF y,h.un.keep (y.block _ (by omega)) fun x I=>y.block x (h.ous x I).2,h.pl.below y (by omega),h.dFR,h.dF,h.dR,h.bfs,h.lo,fun x I=>⟨(h.ous x I).1,κ (h.ous x I).2 y.size⟩,τ J y.size⟩
theorem D.kK.low (h:kK B sb mu mp Af nf cf Lf fs bf Ar nr cr Lr rn Lp G ou w) {x:Nat} (y:x < B∧x ≠ sb∧x ≠ mu∧x ≠ mp):Free B sb mu mp (.slice Af nf cf) (.slice Ar nr cr) ou x:=
 ⟨fun e=>by have:=(bG h.cF.own e).1; omega,fun e=>by have:=(bG h.cR.own e).1; omega,fun e=>by have:=(h.ous x e).1; omega,y.2⟩
theorem D.kK.fact (h:kK B sb mu mp Af nf cf Lf fs bf Ar nr cr Lr rn Lp G ou w) {w5:World} {J:Option Addr} {U:Nat} {cs:List Value} {a:A} {ba:List Nat} (a3:aQ 2 aG w cs [a] ba)
  (a4:w5.ownsRow B 33 2 (.slice J (nf+1) U) (nf+1) (Lf ++ cs)) (hg:w.grownBy w5 (Value.slice Af nf cf).ownBlock) (a1:(Value.slice J (nf+1) U).ownBlock=(Value.slice Af nf cf).ownBlock∨(Value.slice J (nf+1) U).ownBlock=some w.heap.size)
  (a2:∀ x ∈ ba,Free B sb mu mp (.slice Af nf cf) (.slice Ar nr cr) ou x):
  w5.cell? ⟨sb,0,none⟩=some (.slice Af nf cf)∧w5.frozen? ⟨sb,0,none⟩=false∧kK B sb mu mp J (nf+1) U (Lf ++ cs) (fs ++ [a]) (bf ++ ba) Ar nr cr Lr rn Lp G ou (w5.setCell ⟨sb,0,none⟩ (.slice J (nf+1) U))∧
   (∀ x,x < w.heap.size→(Value.slice Af nf cf).ownBlock ≠ some x→x ≠ sb→(w5.setCell ⟨sb,0,none⟩ (.slice J (nf+1) U)).heap[x]? = w.heap[x]?)∧∀ x,(Value.slice J (nf+1) U).ownBlock=some x→(Value.slice Af nf cf).ownBlock=some x∨x=w.heap.size:=by
 obtain ⟨l1,l2,l3,l4,l5,l6⟩:=h.lo;have hs:=h.oC;have oF:∀ x,(Value.slice Af nf cf).ownBlock=some x→B≤x∧x < w.heap.size:=fun x y=>bG h.cF.own y
 have oR:∀ x,(Value.slice Ar nr cr).ownBlock=some x→B≤x∧x < w.heap.size:=fun x y=>bG h.cR.own y
 have k5:∀ x,x < w.heap.size→(Value.slice Af nf cf).ownBlock ≠ some x→w5.heap[x]? = w.heap[x]?:=fun x h1 h2=>hg.block x h1 (fun e=>h2 e.symm)
 have kp:∀ x,x < w.heap.size→(Value.slice Af nf cf).ownBlock ≠ some x→x ≠ sb→(w5.setCell ⟨sb,0,none⟩ (.slice J (nf+1) U)).heap[x]? = w.heap[x]?:=fun x h1 h2 h3=>(π _ _ _ _ h3).trans (k5 x h1 h2)
 have a0:∀ x,x < B→(Value.slice Af nf cf).ownBlock ≠ some x:=fun x y e=>by have:=(oF x e).1; omega
 have b5:=(k5 sb (by omega) (a0 sb l1)).trans h.blk
 have I:∀ x,(Value.slice J (nf+1) U).ownBlock=some x→(Value.slice Af nf cf).ownBlock=some x∨x=w.heap.size:=fun x y=>by
  rcases a1 with e | e
  ·exact .inl (e ▸ y)
  ·right; rw [e] at y; injection y with y; exact y.symm
 have a6:aZ 2 aG B 33 w5 (.slice J (nf+1) U) (Lf ++ cs) (fs ++ [a]) (bf ++ ba):=by
  have a7:=h.ef;subst a7;exact h.cF.app aj a3 (fun b hb=>(a2 b hb).f) a4 hg a1
 refine ⟨ai b5,ax b5,⟨?_,by rw [χ,h.ef]; rfl,h.er,?_,?_,?_,?_,?_,?_,h.dR,?_,h.lo,?_,?_⟩,kp,I⟩
 ·have:=bK (o:=0) (u:=.slice J (nf+1) U) b5
  simpa using this
 ·exact a6.lU aj (fun x y=>π _ _ _ _ (by
   rcases I x y with e | e
   ·have:=(oF x e).1; show x ≠ sb; omega
   ·show x ≠ sb; omega)) (fun x y=>π _ _ _ _ (by
   rcases μ.1 y with y | y
   ·exact (h.bfs x y).1
   ·exact (a2 x y).s.1))
 ·exact h.cR.lU iF (fun x y=>kp x (oR x y).2 (fun e=>h.dFR x e y) (by have:=(oR x y).1; omega)) (fun x y=>by simp at y)
 ·exact h.un.keep (kp mu (by omega) (a0 mu l2) (by omega)) fun x y=>kp x (h.ous x y).2 (h.dF x y) (by have:=(h.ous x y).1; omega)
 ·exact h.pl.same (kp mp (by omega) (a0 mp l3) (by omega))
 ·intro x y a5
  rcases I x y with e | e
  ·exact h.dFR x e a5
  ·have:=(oR x a5).2; omega
 ·intro x y e
  rcases I x e with e | e
  ·exact h.dF x y e
  ·have:=(h.ous x y).2; omega
 ·intro x y
  rcases μ.1 y with y | y
  ·exact h.bfs x y
  ·have g:=a2 x y
   exact ⟨g.s.1,g.s.2.1,g.s.2.2,g.u,g.r⟩
 ·intro x y
  have:=h.ous x y;have:=hg.size;exact ⟨by omega,by simp [World.setCell]; omega⟩
 ·have:=hg.size
  simp [World.setCell]; omega
theorem D.kK.round (h:kK B sb mu mp Af nf cf Lf fs bf Ar nr cr Lr rn Lp G ou w) {w5:World} {J:Option Addr} {U:Nat} {cs:List Value} {i:Nat} (a2:aQ 1 wM w cs [i] [])
  (a3:w5.ownsRow B 3 1 (.slice J (nr+1) U) (nr+1) (Lr ++ cs)) (hg:w.grownBy w5 (Value.slice Ar nr cr).ownBlock) (a1:(Value.slice J (nr+1) U).ownBlock=(Value.slice Ar nr cr).ownBlock∨(Value.slice J (nr+1) U).ownBlock=some w.heap.size):
  w5.cell? ⟨sb,1,none⟩=some (.slice Ar nr cr)∧w5.frozen? ⟨sb,1,none⟩=false∧kK B sb mu mp Af nf cf Lf fs bf J (nr+1) U (Lr ++ cs) (rn ++ [i]) Lp G ou (w5.setCell ⟨sb,1,none⟩ (.slice J (nr+1) U))∧
   (∀ x,x < w.heap.size→(Value.slice Ar nr cr).ownBlock ≠ some x→x ≠ sb→(w5.setCell ⟨sb,1,none⟩ (.slice J (nr+1) U)).heap[x]? = w.heap[x]?)∧∀ x,(Value.slice J (nr+1) U).ownBlock=some x→(Value.slice Ar nr cr).ownBlock=some x∨x=w.heap.size:=by
 obtain ⟨l1,l2,l3,l4,l5,l6⟩:=h.lo;have hs:=h.oC;have oF:∀ x,(Value.slice Af nf cf).ownBlock=some x→B≤x∧x < w.heap.size:=fun x y=>bG h.cF.own y
 have oR:∀ x,(Value.slice Ar nr cr).ownBlock=some x→B≤x∧x < w.heap.size:=fun x y=>bG h.cR.own y
 have k5:∀ x,x < w.heap.size→(Value.slice Ar nr cr).ownBlock ≠ some x→w5.heap[x]? = w.heap[x]?:=fun x h1 h2=>hg.block x h1 (fun e=>h2 e.symm)
 have kp:∀ x,x < w.heap.size→(Value.slice Ar nr cr).ownBlock ≠ some x→x ≠ sb→(w5.setCell ⟨sb,1,none⟩ (.slice J (nr+1) U)).heap[x]? = w.heap[x]?:=fun x h1 h2 h3=>(π _ _ _ _ h3).trans (k5 x h1 h2)
 have a0:∀ x,x < B→(Value.slice Ar nr cr).ownBlock ≠ some x:=fun x y e=>by have:=(oR x e).1; omega
 have b5:=(k5 sb (by omega) (a0 sb l1)).trans h.blk
 have I:∀ x,(Value.slice J (nr+1) U).ownBlock=some x→(Value.slice Ar nr cr).ownBlock=some x∨x=w.heap.size:=fun x y=>by
  rcases a1 with e | e
  ·exact .inl (e ▸ y)
  ·right; rw [e] at y; injection y with y; exact y.symm
 have a4:aZ 1 wM B 3 w5 (.slice J (nr+1) U) (Lr ++ cs) (rn ++ [i]) []:=by
  have a5:=h.er;subst a5;exact h.cR.app iF a2 (fun b hb=>by simp at hb) a3 hg a1
 refine ⟨ai b5,ax b5,⟨?_,h.ef,by rw [χ,h.er]; rfl,?_,?_,?_,?_,?_,h.dF,?_,?_,h.lo,?_,?_⟩,kp,I⟩
 ·have:=bK (o:=1) (u:=.slice J (nr+1) U) b5
  simpa using this
 ·exact h.cF.lU aj (fun x y=>kp x (oF x y).2 (fun e=>h.dFR x y e) (by have:=(oF x y).1; omega)) (fun x y=>kp x (h.cF.row.lt aj x y) (h.bfs x y).2.2.2.2 (h.bfs x y).1)
 ·exact a4.lU iF (fun x y=>π _ _ _ _ (by
   rcases I x y with e | e
   ·have:=(oR x e).1; show x ≠ sb; omega
   ·show x ≠ sb; omega)) (fun x y=>by simp at y)
 ·exact h.un.keep (kp mu (by omega) (a0 mu l2) (by omega)) fun x y=>kp x (h.ous x y).2 (h.dR x y) (by have:=(h.ous x y).1; omega)
 ·exact h.pl.same (kp mp (by omega) (a0 mp l3) (by omega))
 ·intro x y a6
  rcases I x a6 with e | e
  ·exact h.dFR x y e
  ·have:=(oF x y).2; omega
 ·intro x y e
  rcases I x e with e | e
  ·exact h.dR x y e
  ·have:=(h.ous x y).2; omega
 ·intro x y
  obtain ⟨g1,g2,g3,g4,g5⟩:=h.bfs x y;refine ⟨g1,g2,g3,g4,fun e=>?_⟩
  rcases I x e with e | e
  ·exact g5 e
  ·have:=h.cF.row.lt aj x y; omega
 ·intro x y
  have:=h.ous x y;have:=hg.size;exact ⟨by omega,by simp [World.setCell]; omega⟩
 ·have:=hg.size
  simp [World.setCell]; omega
theorem D.kK.place (h:kK B sb mu mp Af nf cf Lf fs bf Ar nr cr Lr rn Lp G ou w) {U:World} {J:List (Value × Value)} (hp:gm isStr mp J U) (hg:w.grownBy U (some mp)):kK B sb mu mp Af nf cf Lf fs bf Ar nr cr Lr rn J G ou U:=by
 obtain ⟨l1,l2,l3,l4,l5,l6⟩:=h.lo;have hs:=h.oC;have oF:∀ x,(Value.slice Af nf cf).ownBlock=some x→B≤x∧x < w.heap.size:=fun x y=>bG h.cF.own y
 have oR:∀ x,(Value.slice Ar nr cr).ownBlock=some x→B≤x∧x < w.heap.size:=fun x y=>bG h.cR.own y
 have I:∀ x,x < w.heap.size→x ≠ mp→U.heap[x]? = w.heap[x]?:=fun x h1 h2=>hg.block x h1 (fun e=>h2 (by injection e))
 exact ⟨(I sb (by omega) l5).trans h.blk,h.ef,h.er,h.cF.lU aj (fun x y=>I x (oF x y).2 (by have:=(oF x y).1; omega)) (fun x y=>I x (h.cF.row.lt aj x y) (h.bfs x y).2.2.1),
  h.cR.lU iF (fun x y=>I x (oR x y).2 (by have:=(oR x y).1; omega)) (fun x y=>by simp at y),h.un.keep (I mu (by omega) l6) fun x y=>I x (h.ous x y).2 (by have:=(h.ous x y).1; omega),hp,h.dFR,h.dF,h.dR,h.bfs,h.lo,
  fun x y=>⟨(h.ous x y).1,κ (h.ous x y).2 hg.size⟩,τ hs hg.size⟩
theorem D.kK.under (h:kK B sb mu mp Af nf cf Lf fs bf Ar nr cr Lr rn Lp G ou w) {J:World} {G':WK→List Nat} {I:List Nat} (a0:w.heap.size≤J.heap.size) (U:∀ x,x < w.heap.size→x ≠ mu→x ∉ ou→J.heap[x]? = w.heap[x]?) (hu:rG B mu G' I J) (ho:∀ x ∈ I,x ∈ ou∨(w.heap.size≤x∧x < J.heap.size)):
  kK B sb mu mp Af nf cf Lf fs bf Ar nr cr Lr rn Lp G' I J:=by
 obtain ⟨l1,l2,l3,l4,l5,l6⟩:=h.lo;have hs:=h.oC;have oF:∀ x,(Value.slice Af nf cf).ownBlock=some x→B≤x∧x < w.heap.size:=fun x y=>bG h.cF.own y
 have oR:∀ x,(Value.slice Ar nr cr).ownBlock=some x→B≤x∧x < w.heap.size:=fun x y=>bG h.cR.own y
 have low:∀ x,x < B→x ∉ ou:=fun x y e=>by have:=(h.ous x e).1; omega
 refine ⟨(U sb (by omega) l4 (low sb l1)).trans h.blk,h.ef,h.er,h.cF.lU aj (fun x y=>U x (oF x y).2 (by have:=(oF x y).1; omega) (fun e=>h.dF x e y)) (fun x y=>U x (h.cF.row.lt aj x y) (h.bfs x y).2.1 (h.bfs x y).2.2.2.1),
  h.cR.lU iF (fun x y=>U x (oR x y).2 (by have:=(oR x y).1; omega) (fun e=>h.dR x e y)) (fun x y=>by simp at y),hu,h.pl.same (U mp (by omega) l6.symm (low mp l3)),h.dFR,fun x y e=>?_,fun x y e=>?_,fun x y=>?_,h.lo,fun x y=>?_,by omega⟩
 ·rcases ho x y with g | g
  ·exact h.dF x g e
  ·have:=(oF x e).2; omega
 ·rcases ho x y with g | g
  ·exact h.dR x g e
  ·have:=(oR x e).2; omega
 ·obtain ⟨g1,g2,g3,g4,g5⟩:=h.bfs x y
  refine ⟨g1,g2,g3,fun e=>?_,g5⟩
  rcases ho x e with g | g
  ·exact g4 g
  ·have:=h.cF.row.lt aj x y; omega
 ·rcases ho x y with g | g
  ·have:=h.ous x g; omega
  ·omega
end
def D.qB (rs:List Ru) (xs:List A):List A:=fZ xs 0 (rs.zip (List.replicate rs.length 0))
def D.rJ (rs:List Ru) (xs:List A):List A:=if eF rs xs then qB rs xs else []
theorem D.F6 {a:A} (h:aX a=true):a.args.length≤3:=by
 unfold aX at h;simp only [ο,decide_eq_true_eq] at h;exact h.1.2
theorem D.Qh {r:Ru} (h:dN r=true):r.body.length≤4∧r.head.args.length≤1000∧∀ p ∈ r.body,p.atom.args.length≤1000:=by
 unfold dN mD at h;simp only [ο,decide_eq_true_eq,List.all_eq_true] at h;exact ⟨h.1.1,τ (F6 h.2) (by omega),fun p y=>τ (F6 (h.1.2 p y)) (by omega)⟩
structure D.Xc (rs:List Ru) (xs:List A):Prop where
 fK:fK xs=true
 n:xs.length≤300
 m:rs.length≤8
 rules:∀ r ∈ rs,r.body.length≤4∧r.head.args.length≤1000∧∀ p ∈ r.body,p.atom.args.length≤1000
theorem D.EH {rs:List Ru} {xs:List A} (h:eF rs xs=true):Xc rs xs:=by
 unfold eF jy at h;simp only [ο,decide_eq_true_eq,List.all_eq_true] at h;have hf:=(lN rs).1 h.1.1;exact ⟨h.1.2.2,h.1.2.1.1,hf.few,fun r hr=>Qh (List.all_eq_true.1 hf.ok r hr)⟩
theorem D.NI {list:List A} {level B:Nat} {rl:List (Ru × Nat)} (h:∀ p ∈ rl,(allB list p.1.body).length≤B):(fZ list level rl).length≤rl.length * B:=by
 have h1:∀ (bs:List Bd) (r:Ru) (out:List A),(bs.foldl (fun o b=>dP o (bQ r.head b)) out).length≤out.length+bs.length:=by
  intro bs r
  induction bs with
  | nil=>intro out; exact ν
  | cons b bs ih=>
   intro out;have y:=ih (dP out (bQ r.head b));have I:=zX out (bQ r.head b);simp only [List.foldl_cons,List.length_cons];omega
 have y:∀ k,k≤rl.length→(fZ list level (rl.take k)).length≤k * B:=by
  intro k
  induction k with
  | zero=>intro _; simp [fZ]
  | succ k ih=>
   intro J;have I:=ih (by omega);rw [uU list level rl k (by omega),Nat.add_mul]
   split
   ·have U:=h1 (allB list rl[k].1.body) rl[k].1 (fZ list level (rl.take k))
    have h5:=h _ (δ (show k < rl.length by omega));unfold DF;omega
   ·omega
 have:=y rl.length ν
 rwa [ϕ ν] at this
end
end Go.Proofs.YtkjinanbccloeaaGreatDoor
