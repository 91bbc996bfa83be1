/- Of the proof of FnEvalOnly: DrawEv, RunP2. -/
import Derived.Test.YtkjinanbccloeaaGreatDoorB32
set_option linter.unusedVariables false
set_option maxHeartbeats 4000000
set_option maxRecDepth 100000
namespace Go.Proofs.YtkjinanbccloeaaGreatDoor
section
open Go.RowKit D
attribute [local go_sem ↓] Go.wp_at_zero Go.wp_at_succ
def Qm (w:World) (e:Ending) (w':World):Prop:=∃ (rs:List Ru) (y:Option Addr) (c0:Nat) (b0:List Nat) (xs:List A) (I:Option Addr) (c1:Nat) (J:List Nat),e=.returned (.tuple #[.slice y rs.length c0,.slice I xs.length c1])∧dS w' [.slice y rs.length c0] rs b0∧aU w' [.slice I xs.length c1] xs J∧
 rs.length≤9∧xs.length≤50∧Below w.heap.size w w'
def XC (g p:Nat) (w:World) (e:Ending) (w':World):Prop:=∃ i:Nat,e=.returned (.int .i64 i)∧5≤i∧i≤7∧kH g (p+1) w'∧aH [g] w w'
theorem VQ (g p:Nat) (w:World) (h:kH g p w) (hp:p≤1000000):
  Calls Tryz.prog 48 #[.pointer (some ⟨g,0,none⟩),.slice (some ⟨w.heap.size,0,none⟩) 3 3] (w.alloc (.cells #[.int .i64 6,.int .i64 7,.int .i64 5] 3)) (XC g p w):=by
 have hA:Below w.heap.size w (w.alloc (.cells #[.int .i64 6,.int .i64 7,.int .i64 5] 3)):=ζ;have I:=pick_any g p 3 _ (h.below hA) hp (by omega) (by omega);have a2:=h.lt;have x0:(w.alloc (.cells #[.int .i64 6,.int .i64 7,.int .i64 5] 3)).cell? ⟨w.heap.size,0,none⟩=some (.int .i64 6):=by go_simp
 have x1:(w.alloc (.cells #[.int .i64 6,.int .i64 7,.int .i64 5] 3)).cell? ⟨w.heap.size,1,none⟩=some (.int .i64 7):=by go_simp
 have x2:(w.alloc (.cells #[.int .i64 6,.int .i64 7,.int .i64 5] 3)).cell? ⟨w.heap.size,2,none⟩=some (.int .i64 5):=by go_simp
 have HK:=η (fun w1 (J:(w.alloc (.cells #[.int .i64 6,.int .i64 7,.int .i64 5] 3)).grownBy w1 (some g))=>(aH.of_below hA).trans (aH.dM J));generalize hW:w.alloc (.cells #[.int .i64 6,.int .i64 7,.int .i64 5] 3)=W at *;have a0:w.heap.size < W.heap.size:=lt_of_cell x0
 go_enter Tryz.func48,Tryz.ntmps48
 go_wp2_with fail
 refine I.mono ?_;rintro e w1 ⟨i,rfl,hi,hR,J⟩;have U:=J.block w.heap.size a0 (by simp; omega);replace x0:=(World.cell?_of_block U).trans x0;replace x1:=(World.cell?_of_block U).trans x1;replace x2:=(World.cell?_of_block U).trans x2;have y:=η (HK.out w1 J);clear I U J HK;have a1:i=0∨i=1∨i=2:=by omega
 rcases a1 with rfl | rfl | rfl
 all_goals
  go_wp2;go_ret
 ·exact ⟨6,rfl,by omega,by omega,hR,y.out⟩
 ·exact ⟨7,rfl,by omega,by omega,hR,y.out⟩
 ·exact ⟨5,rfl,by omega,by omega,hR,y.out⟩
def D.VR (n x:ByteArray):A:=⟨n,[⟨true,x⟩]⟩
theorem uY (n x:ByteArray) (w:World) (I:n.size≤maxLen) (J:x.size≤maxLen):
  Calls Tryz.prog 51 #[.string n,.string x] w fun e w'=>Below w.heap.size w w'∧w'.heap.size=w.heap.size+2∧∃ b,e=.returned (.agg #[.string n,.slice (some ⟨b,0,none⟩) 1 1])∧aG w' [.string n,.slice (some ⟨b,0,none⟩) 1 1] (VR n x) [b]∧b=w.heap.size+1:=by
 go_enter Tryz.func51,Tryz.ntmps51
 go_wp2
 have y:((w.alloc (.cells #[.string n,.slice (some ⟨w.heap.size+1,0,none⟩) 1 1] 33)).alloc (.cells #[.bool true,.string x] 91)).heap[w.heap.size+1]? = some (.cells #[.bool true,.string x] 91 (0,0)):=by
  simpa using ω (w.alloc (.cells #[.string n,.slice (some ⟨w.heap.size+1,0,none⟩) 1 1] 33)) (.cells #[.bool true,.string x] 91)
 have U:((w.alloc (.cells #[.string n,.slice (some ⟨w.heap.size+1,0,none⟩) 1 1] 33)).alloc (.cells #[.bool true,.string x] 91)).cell? ⟨w.heap.size,0,none⟩=some (.string n):=by go_simp
 have z1:((w.alloc (.cells #[.string n,.slice (some ⟨w.heap.size+1,0,none⟩) 1 1] 33)).alloc (.cells #[.bool true,.string x] 91)).cell? ⟨w.heap.size,1,none⟩=some (.slice (some ⟨w.heap.size+1,0,none⟩) 1 1):=by go_simp
 refine bodyPost_ret (v:=.agg #[.string n,.slice (some ⟨w.heap.size+1,0,none⟩) 1 1]) (by simp [results,Tryz.results51,go_sem,U,z1]) rfl ?_;exact ⟨(ζ).alloc (by simp) _,by simp,_,rfl,⟨_,rfl,I,ng y J⟩,rfl⟩
theorem D.NP (w:World) (y I J:ByteArray) (U s2 s3:Value) {a1 a2 a3:A} {b1 b2 b3:List Nat} (h1:aG w [.string y,U] a1 b1) (h2:aG w [.string I,s2] a2 b2) (h3:aG w [.string J,s3] a3 b3):
  ∃ bs,gW (w.alloc (.cells #[.bool false,.string y,U,.bool false,.string I,s2,.bool false,.string J,s3] 42)) [.slice (some ⟨w.heap.size,0,none⟩) 3 3] [⟨false,a1⟩,⟨false,a2⟩,⟨false,a3⟩] bs:=by
 have hA:Below w.heap.size w (w.alloc (.cells #[.bool false,.string y,U,.bool false,.string I,s2,.bool false,.string J,s3] 42)):=ζ
 have el:∀ {n:ByteArray} {s:Value} {a:A} {b:List Nat},aG w [.string n,s] a b→aQ 3 nT (w.alloc (.cells #[.bool false,.string y,U,.bool false,.string I,s2,.bool false,.string J,s3] 42)) [.bool false,.string n,s] [⟨false,a⟩] b:=fun h=>by
  obtain ⟨s',a0,hn,ht⟩:=aj.below h hA;simp only [List.cons.injEq,and_true] at a0;obtain ⟨e1,rfl⟩:=a0;exact aQ.dh AQ ⟨_,by rw [e1],hn,ht⟩
 obtain ⟨bs,h,_⟩:=(((el h1).append (el h2)).append (el h3)).slice (World.ownsRow_lit (base:=w.heap.size) (e:=42) w #[.bool false,.string y,U,.bool false,.string I,s2,.bool false,.string J,s3] 3 ν (by unfold maxLen; omega) rfl);exact ⟨bs,h⟩
theorem Uc (w:World) (y:ByteArray) (h1:y.size≤100):∃ bs,eP (w.alloc (.cells #[.bool false,.string y] 91)) [.slice (some ⟨w.heap.size,0,none⟩) 1 1] [⟨false,y⟩] bs∧∀ c ∈ bs,w.heap.size≤c:=
 ⟨_,ng (ω w _) (τ h1 (by decide)),fun c hc=>by simp at hc; omega⟩
theorem NQ (w:World) (y I J:ByteArray) (h1:y.size≤maxLen) (h2:I.size≤maxLen) (h3:J.size≤maxLen):∃ bs,eP (w.alloc (.cells #[.bool true,.string y,.bool true,.string I,.bool true,.string J] 91)) [.slice (some ⟨w.heap.size,0,none⟩) 3 3] [⟨true,y⟩,⟨true,I⟩,⟨true,J⟩] bs:=by
 have U:∀ {s:ByteArray},s.size≤maxLen→aQ 2 jb (w.alloc (.cells #[.bool true,.string y,.bool true,.string I,.bool true,.string J] 91)) [.bool true,.string s] [⟨true,s⟩] []:=fun h=>aQ.dh (n:=2) (R:=jb) jE ⟨rfl,h,rfl⟩
 obtain ⟨bs,h,_⟩:=(((U h1).append (U h2)).append (U h3)).slice (World.ownsRow_lit (base:=w.heap.size) (e:=91) w #[.bool true,.string y,.bool true,.string I,.bool true,.string J] 3 ν (by unfold maxLen; omega) rfl);exact ⟨bs,h⟩
theorem D.Ud (w:World) (n:ByteArray) (s b:Value) {r:Ru} {bs:List Nat} (h:fG w [.string n,s,b] r bs):
  ∃ y,dS (w.alloc (.cells #[.string n,s,b] 40)) [.slice (some ⟨w.heap.size,0,none⟩) 1 1] [r] y:=by
 have I:Below w.heap.size w (w.alloc (.cells #[.string n,s,b] 40)):=ζ;obtain ⟨bs,h,_⟩:=(aQ.dh (n:=3) (R:=fG) kY (aV.below h I)).slice (World.ownsRow_lit (base:=w.heap.size) (e:=40) w #[.string n,s,b] 1 ν (by unfold maxLen; omega) rfl);exact ⟨bs,h⟩
theorem Qn (i:Nat) (w:World) (h:i≤7):Calls Tryz.prog 50 #[.int .i64 i] w fun e w'=>∃ s:ByteArray,e=.returned (.string s)∧s.size=1∧Below w.heap.size w w':=by
 by_cases y:i < 7
 ·exact (rH i w y).mono fun e w' ⟨h1,I⟩=>⟨_,h1,rfl,I⟩
 ·obtain rfl:i=7:=by omega
  have J:=KC
  go_enter Tryz.func50,Tryz.ntmps50
  go_wp2;go_ret;exact ⟨_,rfl,rfl,ζ⟩
theorem Ie (v:Value) (cs:List UInt8) (bs:List Nat) (w:World) (h:qH w [v] cs bs) (hn:cs.length≤1048576):
  Calls Tryz.prog 12 #[v] w (Qm w):=by
 have ho:=open_any v cs bs w h hn;clear h
 go_enter Tryz.func12,Tryz.ntmps12
 go_wp2_with fail
 refine ho.mono ?_;rintro e w1 ⟨rfl,hR,hb⟩;have HB:=η hb;have aw:=pick_any _ 0 40 w1 hR (by omega) (by omega) (by omega);have HG:=η hR.lt;have az:Hid (∀ w',aH [w.heap.size] w1 w'→Below w.heap.size w w'):=η fun w' hK=>HB.out.trans (hK.below (fun b hb=>by simp at hb; omega) HB.out.size)
 have a9:Hid (∀ e w',(∃ (rs:List Ru) (A0:Option Addr) (c0:Nat) (b0:List Nat) (xs:List A) (A1:Option Addr) (c1:Nat) (b1:List Nat),e=.returned (.tuple #[.slice A0 rs.length c0,.slice A1 xs.length c1])∧dS w' [.slice A0 rs.length c0] rs b0∧aU w' [.slice A1 xs.length c1] xs b1∧rs.length≤9∧xs.length≤50∧aH [w.heap.size] w1 w')→Qm w e w'):=η fun e w' ⟨rs,A0,c0,b0,xs,A1,c1,b1,e1,e2,e3,e4,e5,e6⟩=>⟨rs,A0,c0,b0,xs,A1,c1,b1,e1,e2,e3,e4,e5,az.out _ e6⟩
 clear az HB;generalize w.heap.size=g at *;clear ho hb hR
 go_wp2_with fail
 refine aw.mono ?_;rintro e w2 ⟨k,rfl,bv,a4,aD⟩;have HK:Hid (aH [g] w1 w2):=η (aH.dM aD);have bw:Hid (g < w2.heap.size):=η (by have:=HG.out; have:=HK.out.size; omega);clear aw aD bv;by_cases hk:k=0
 ·subst hk
  have ag:Below w2.heap.size w2 (w2.alloc (.cells #[] 33)):=ζ;have am:Hid (nR g 1 w2 [] (.slice (some ⟨w2.heap.size,0,none⟩) 0 0) (w2.alloc (.cells #[] 33))):=η ⟨⟨_,_,aZ.empty (ω w2 _) ν,fun b hb=>by simp at hb⟩,fun a ha=>by simp at ha,a4.below ag,aH.of_below ag,bw.out⟩;have a1:=VQ g 1 _ am.out.rdr (by omega);simp only [World.size_alloc] at a1;clear ag a4
  go_wp2_with fail
  refine a1.mono ?_;rintro e w3 ⟨i,rfl,bx,aE,aL,aM⟩;have aR:=η (am.out.call aL aM);clear a1 aL aM bx am;go_wp2
  go_loopw [5,6] (fun m i wr=>∃ (n:Nat) (xs:List A) (Am:Option Addr) (cm:Nat),n≤7∧i=.int .i64 n∧m=.slice Am xs.length cm∧fK xs=true∧xs.length+n≤7∧nR g 2 w2 xs (.slice Am xs.length cm) wr) (fun _ i _=>(intOf i).toNat)
  case atStart=>exact ⟨i,[],_,_,aE,rfl,rfl,rfl,by simpa using aE,aR.out⟩
  case round=>
   obtain ⟨n,xs,Am,cm,a5,rfl,rfl,aa,hlen,hF⟩:=hrel;have HF:=η hF;have HX:=η (ι aa hlen);clear hF aa hlen aR;by_cases ao:0 < n
   ·skip
    have bz:(0:Int) < (n:Int):=by omega
    have bX:wrap64 ((n:Int) - 1)=((n - 1:Nat):Int):=by unfold wrap64; omega
    have b2:=Qn n wr a5;have HN:=η (ι ao a5);clear ao a5
    go_wp2_with fail
    refine b2.mono ?_;rintro e w4 ⟨s1,rfl,bA,b3⟩;have ap:=η (HF.out.below b3);have c3:((⟨#[119]⟩:ByteArray) ++ s1).size=2:=by rw [ByteArray.size_append,bA]; rfl
    obtain ⟨bt,ht,b4⟩:=Uc w4 ((⟨#[119]⟩:ByteArray) ++ s1) (by omega);have b5:Below w4.heap.size w4 (w4.alloc (.cells #[.bool false,.string ((⟨#[119]⟩:ByteArray) ++ s1)] 91)):=ζ;have bB:Hid (∀ c ∈ bt,w2.heap.size≤c):=η (fun c hc=>τ ap.out.kept.size (b4 c hc));clear b4;have a6:=η (ap.out.below b5);obtain ⟨b6,h6,b8⟩:=a6.out.atoms;have bE:=η b8;clear b8;have ab:=sK xs ⟨⟨#[112]⟩,[⟨false,(⟨#[119]⟩:ByteArray) ++ s1⟩]⟩ _ (.string ⟨#[112]⟩) (.slice (some ⟨w4.heap.size,0,none⟩) 1 1) b6 bt _ h6 ⟨_,rfl,(show (1:Nat)≤maxLen by decide),ht⟩ HX.out.1 (by have:=HX.out.2; omega);clear b2 b3 b5 ht h6 ap
    go_wp2_with fail
    refine ab.mono ?_;rintro e w6 ⟨bL,v6,b7,rfl,b9,ho⟩;have bO:=η (a6.out.put (xs':=dP xs ⟨⟨#[112]⟩,[⟨false,(⟨#[119]⟩:ByteArray) ++ s1⟩]⟩) bL (fun y hy=>by rcases sD hy with hy | rfl; exact a6.out.small y hy; exact (show (1:Nat)≤4 by decide)) ho (fun c hc=>(μ.1 hc).elim (bE.out c) (bB.out c)));obtain ⟨A6,c6,rfl,_,_⟩:=ak b9;have bc:=oD xs ⟨⟨#[112]⟩,[⟨false,(⟨#[119]⟩:ByteArray) ++ s1⟩]⟩;have bf:=vM HX.out.1 ⟨⟨#[112]⟩,[⟨false,(⟨#[119]⟩:ByteArray) ++ s1⟩]⟩;generalize dP xs ⟨⟨#[112]⟩,[⟨false,(⟨#[119]⟩:ByteArray) ++ s1⟩]⟩=ys at *;have HI:=η (ι bc bf);clear ab b9 ho a6 HF bc bf;go_wp2;go_roundw
    case rel=>exact ⟨n - 1,ys,A6,c6,by have:=HN.out; omega,by have:=HN.out; first | go_num | (unfold wrap64; congr 1; omega),rfl,HI.out.2,by have:=HN.out; have:=HX.out.2; have:=HI.out.1; omega,bO.out⟩
    case measure=>have:=HN.out; simp [intOf]; omega
   ·skip
    have bz:¬ (0:Int) < (n:Int):=by omega
    obtain rfl:n=0:=by omega
    clear a5 ao;have aq:Below wr.heap.size wr (wr.alloc (.cells #[.bool true,.string ⟨#[88]⟩,.bool true,.string ⟨#[89]⟩,.bool true,.string ⟨#[90]⟩] 91)):=ζ;have bg:Below wr.heap.size wr ((wr.alloc (.cells #[.bool true,.string ⟨#[88]⟩,.bool true,.string ⟨#[89]⟩,.bool true,.string ⟨#[90]⟩] 91)).alloc (.cells #[.string ⟨#[104]⟩,.slice (some ⟨wr.heap.size,0,none⟩) 3 3] 33)):=aq.alloc aq.size _;have bh:=Below.alloc (Below.refl (wr.alloc (.cells #[.bool true,.string ⟨#[88]⟩,.bool true,.string ⟨#[89]⟩,.bool true,.string ⟨#[90]⟩] 91)).heap.size _) ν (.cells #[.string ⟨#[104]⟩,.slice (some ⟨wr.heap.size,0,none⟩) 3 3] 33);obtain ⟨bt,ht⟩:=NQ wr ⟨#[88]⟩ ⟨#[89]⟩ ⟨#[90]⟩ (by decide) (by decide) (by decide);have HT:=η (aN.below ht bh);have bR:=η (HF.out.below bg)
    have y0:((wr.alloc (.cells #[.bool true,.string ⟨#[88]⟩,.bool true,.string ⟨#[89]⟩,.bool true,.string ⟨#[90]⟩] 91)).alloc (.cells #[.string ⟨#[104]⟩,.slice (some ⟨wr.heap.size,0,none⟩) 3 3] 33)).cell? ⟨wr.heap.size+1,0,none⟩=some (.string ⟨#[104]⟩):=by go_simp
    have y1:((wr.alloc (.cells #[.bool true,.string ⟨#[88]⟩,.bool true,.string ⟨#[89]⟩,.bool true,.string ⟨#[90]⟩] 91)).alloc (.cells #[.string ⟨#[104]⟩,.slice (some ⟨wr.heap.size,0,none⟩) 3 3] 33)).cell? ⟨wr.heap.size+1,1,none⟩=some (.slice (some ⟨wr.heap.size,0,none⟩) 3 3):=by go_simp
    clear aq bg bh ht HF
    go_wp2_with fail
    generalize (wr.alloc (.cells #[.bool true,.string ⟨#[88]⟩,.bool true,.string ⟨#[89]⟩,.bool true,.string ⟨#[90]⟩] 91)).alloc (.cells #[.string ⟨#[104]⟩,.slice (some ⟨wr.heap.size,0,none⟩) 3 3] 33)=w7 at *;generalize wr.heap.size=nb at *
    go_region_held3 (fun w'=>w'.cell? ⟨nb+1,0,none⟩=some (.string ⟨#[104]⟩)∧w'.cell? ⟨nb+1,1,none⟩=some (.slice (some ⟨nb,0,none⟩) 3 3)) (first | go_keep | exact ⟨y0,y1⟩)
     (first
      | (go_at_call 51; (with_reducible refine Calls.mono (uY ⟨#[112]⟩ ⟨#[88]⟩ w7.drew (by decide) (by decide)) ?_); rintro e w8 ⟨a0,-,p1,rfl,ac,-⟩; replace a0:=(Below.drew (Below.refl w7.heap.size w7)).trans a0; replace y0:=ξ a0 y0; replace y1:=ξ a0 y1; have a7:=η a0; have bi:=η ac; clear a0 ac)
      | (go_at_call 51; (with_reducible refine Calls.mono (uY ⟨#[112]⟩ ⟨#[89]⟩ w8 (by decide) (by decide)) ?_); rintro e w9 ⟨a8,-,p2,rfl,ae,-⟩; replace y0:=ξ a8 y0; replace y1:=ξ a8 y1; have ar:=η a8; have bj:=η ae; clear a8 ae)
      | (go_at_call 51; (with_reducible refine Calls.mono (uY ⟨#[112]⟩ ⟨#[90]⟩ w9 (by decide) (by decide)) ?_); rintro e I ⟨J,-,p3,rfl,af,-⟩; replace y0:=ξ J y0; replace y1:=ξ J y1; have a2:=η J; have bk:=η af; clear J af))
    have a3:Below w7.heap.size w7 I:=(a7.out.trans (ar.out.mono a7.out.size)).trans (a2.out.mono (a7.out.trans (ar.out.mono a7.out.size)).size);obtain ⟨bp,bl⟩:=NP I _ _ _ _ _ _ (aj.below (aj.below bi.out ar.out) a2.out) (aj.below bj.out a2.out) bk.out;have bo:Below I.heap.size I (I.alloc (.cells #[.bool false,.string ⟨#[112]⟩,.slice (some ⟨p1,0,none⟩) 1 1,.bool false,.string ⟨#[112]⟩,.slice (some ⟨p2,0,none⟩) 1 1,.bool false,.string ⟨#[112]⟩,.slice (some ⟨p3,0,none⟩) 1 1] 42)):=ζ;have U:=a3.trans (bo.mono a3.size);obtain ⟨br,bq⟩:=Ud _ ⟨#[104]⟩ (.slice (some ⟨nb,0,none⟩) 3 3) (.slice (some ⟨I.heap.size,0,none⟩) 3 3) (r:=⟨⟨⟨#[104]⟩,[⟨true,⟨#[88]⟩⟩,⟨true,⟨#[89]⟩⟩,⟨true,⟨#[90]⟩⟩]⟩,[⟨false,VR ⟨#[112]⟩ ⟨#[88]⟩⟩,⟨false,VR ⟨#[112]⟩ ⟨#[89]⟩⟩,⟨false,VR ⟨#[112]⟩ ⟨#[90]⟩⟩]⟩) ⟨_,_,_,_,rfl,(show (⟨#[104]⟩:ByteArray).size≤maxLen from by decide),rfl,aN.below HT.out U,bl⟩
    have bu:=Below.alloc U U.size (.cells #[.string ⟨#[104]⟩,.slice (some ⟨nb,0,none⟩) 3 3,.slice (some ⟨I.heap.size,0,none⟩) 3 3] 40);have av:=bR.out.below bu;obtain ⟨b6,h6,_⟩:=av.atoms;have HZ:Hid (Qm w (.returned (.tuple #[.slice (some ⟨(I.alloc (.cells #[.bool false,.string ⟨#[112]⟩,.slice (some ⟨p1,0,none⟩) 1 1,.bool false,.string ⟨#[112]⟩,.slice (some ⟨p2,0,none⟩) 1 1,.bool false,.string ⟨#[112]⟩,.slice (some ⟨p3,0,none⟩) 1 1] 42)).heap.size,0,none⟩) 1 1,.slice Am xs.length cm])) _):=η (a9.out _ _ ⟨[_],_,_,br,xs,Am,cm,b6,rfl,bq,h6,by simp,by have:=HX.out.2; omega,HK.out.trans av.kept⟩);clear a3 U bl bo bq bu av h6;rw [World.size_alloc] at HZ;go_wp2;go_ret2;exact HZ.out
 ·have c4:¬ ((k:Int)=0):=by omega
  have hd:=Ib g 1 w2 a4 (by omega);clear a4 hk
  go_wp2_with fail
  refine hd.mono ?_;rintro e w3 ⟨rs,A0,c0,b0,xs,A1,c1,b1,p',rfl,h1,h2,_,_,h3,h4,h5,h6,_,_,hK⟩;have HZ:Hid (Qm w (.returned (.tuple #[.slice A0 rs.length c0,.slice A1 xs.length c1])) w3):=η (a9.out _ _ ⟨rs,A0,c0,b0,xs,A1,c1,b1,rfl,h1,h2,h3,h5,HK.out.trans hK⟩);clear hd h1 h2 h3 h4 h5 h6 hK;go_wp2;go_ret2;exact HZ.out
end
section
open Go.RowKit D
structure D.qp (vars:List ByteArray) (fs ps ns:List A) (head:A) (wt:Nat→Bool):Prop where
 hv:jr vars
 p4:ps.length≤4
 fl:fs.length≤1000000
 nl:ns.length≤1000000
 fok:∀ f ∈ fs,aI f
 pok:∀ p ∈ ps,aX p=true
 nok:∀ n ∈ ns,aX n=true
 hok:aX head=true
 pin:∀ p ∈ ps,∀ t ∈ p.args,t.var=true→t.name ∈ vars
 nin:∀ n ∈ ns,∀ t ∈ n.args,t.var=true→t.name ∈ vars
 hin:∀ t ∈ head.args,t.var=true→t.name ∈ vars
 want:∀ i,i < 12→wt i=KL vars head ns i
 tight:∀ b,(∀ p ∈ ps,wF b p.args)→wF b head.args∧∀ n ∈ ns,wF b n.args
structure D.bP (K:Nat→Prop) (sk:Nat) (w w':World):Prop where
 os:w'.os=w.os
 tape:w'.tape=w.tape
 output:w'.output=w.output
 size:w.heap.size≤w'.heap.size
 block:∀ k,k < w.heap.size→K k→w'.heap[k]? = w.heap[k]?
 rest:∀ q,(q < 18∨43≤q)→w'.cell? ⟨sk,q,none⟩=w.cell? ⟨sk,q,none⟩
section
variable {K:Nat→Prop} {sk:Nat} {w w' w2:World}
theorem D.bP.trans (h:bP K sk w w') (k:bP K sk w' w2):bP K sk w w2:=
 ⟨k.os.trans h.os,k.tape.trans h.tape,k.output.trans h.output,τ h.size k.size,fun i y hK=>(k.block i (κ y h.size) hK).trans (h.block i y hK),fun q hq=>(k.rest q hq).trans (h.rest q hq)⟩
theorem D.bP.zA (hK:∀ k,K k→k ≠ sk) (h:cZ sk 18 w w'):bP K sk w w':=
 ⟨h.grow.os,h.grow.tape,h.grow.output,h.grow.size,fun k I y=>h.block I (hK k y),fun q hq=>h.rest q (by omega)⟩
theorem D.bP.of_below (y:sk < w.heap.size) (h:Below w.heap.size w w'):bP K sk w w':=
 ⟨h.os,h.tape,h.output,h.size,fun k I _=>h.block k I,fun q _=>World.cell?_of_block (h.block _ y)⟩
theorem D.bP.keep {α:Type} {R:Rel α} (g:Good R) {cs:List Value} {x:α} {bs:List Nat} (h:bP K sk w w') (hr:R w cs x bs) (I:∀ b ∈ bs,K b):R w' cs x bs:=
 g.keep hr fun b y=>h.block b (g.lt hr b y) (I b y)
theorem D.kT.run {sb:Nat} {v1 v2:Value} {wt:Nat→Bool} {io:Bool} {ah:Int} {tell:Value} (h:kT sk sb v1 v2 wt io ah tell w) (k:bP K sk w w'):kT sk sb v1 v2 wt io ah tell w':=
 ⟨(k.rest _ (by omega)).trans h.st,(k.rest _ (by omega)).trans h.p1,(k.rest _ (by omega)).trans h.p2,fun i y=>(k.rest _ (by omega)).trans (h.wd i y),(k.rest _ (by omega)).trans h.io,(k.rest _ (by omega)).trans h.ah,(k.rest _ (by omega)).trans h.tl⟩
end
structure D.oW (vars:List ByteArray) (fs:List A) (rn:List Nat) (bs:List Nat) (ps ns:List A) (sk sb:Nat) (v1 v2:Value) (bp bn:List Nat) (wt:Nat→Bool) (ah:Int) (tell:Value) (K:Nat→Prop) (b:Bd) (w:World):Prop where
 sea:kT sk sb v1 v2 wt false ah tell w
 at_:gJ vars b sk 18 w
 ok:jq vars b
 wds:rO b
 oK:jv sb fs rn bs w
 pps:rq vars w [v1] ps bp
 pns:rq vars w [v2] ns bn
 kbs:∀ x ∈ bs,K x
 kbp:∀ x ∈ bp,K x
 kbn:∀ x ∈ bn,K x
section
variable {vars:List ByteArray} {fs:List A} {rn:List Nat} {bs:List Nat} {ps ns:List A} {sk sb:Nat} {v1 v2:Value} {bp bn:List Nat} {wt:Nat→Bool} {ah:Int} {tell:Value} {K:Nat→Prop} {b b':Bd} {w w':World}
theorem D.oW.kept (h:oW vars fs rn bs ps ns sk sb v1 v2 bp bn wt ah tell K b w) (k:bP K sk w w') (h1:gJ vars b' sk 18 w') (I:jq vars b') (J:rO b'):oW vars fs rn bs ps ns sk sb v1 v2 bp bn wt ah tell K b' w':=
 ⟨h.sea.run k,h1,I,J,h.oK.keep (fun x y=>k.block x (h.oK.lt x y) (h.kbs x y)) k.size,k.keep (dI vars) h.pps h.kbp,k.keep (dI vars) h.pns h.kbn,h.kbs,h.kbp,h.kbn⟩
theorem D.oW.below (h:oW vars fs rn bs ps ns sk sb v1 v2 bp bn wt ah tell K b w) (k:Below w.heap.size w w'):oW vars fs rn bs ps ns sk sb v1 v2 bp bn wt ah tell K b w':=
 h.kept (bP.of_below h.sea.lt k) (h.at_.keep (k.block _ h.sea.lt)) h.ok h.wds
end
structure D.uZ (vars:List ByteArray) (head:A) (sk:Nat) (K:Nat→Prop) (c5 c7:Addr) (T:Bool→World→List A→Prop) (go:List A→Bool):Prop where
 call:∀ (w:World) (b:Bd) (told:List A),jq vars b→rO b→wF b head.args→gJ vars b sk 18 w→T true w told→Calls Tryz.prog 116 #[.pointer (some ⟨sk,18,none⟩),.pointer (some c5),.pointer (some c7)] w fun e w'=>
  e=.returned (.bool (go (told ++ [bQ head b])))∧T (go (told ++ [bQ head b])) w' (told ++ [bQ head b])∧bP K sk w w'∧w'.heap[sk]? = w.heap[sk]?
 keep:∀ {f:Bool} (w w':World) (told:List A),T f w told→cZ sk 18 w w'→T f w' told
def D.iL (vars:List ByteArray) (fs ps ns:List A) (head:A) (K:Nat→Prop) (sk:Nat) (T:Bool→World→List A→Prop) (go:List A→Bool) (b:Bd) (left:Nat) (told:List A) (held more:Bool) (w w':World):Prop:=
 ∃ y,bP K sk w w'∧gJ vars b sk 18 w'∧T more w' (told ++ y)∧(∀ t ∈ y,∃ σ,tH fs ps ns b left σ∧fH σ head=t)∧(more=true→∀ σ,tH fs ps ns b left σ→fH σ head ∈ y)∧(held=true→y ≠ [])∧(more=false→go (told ++ y)=false)
section
variable {vars:List ByteArray} {fs ps ns:List A} {head:A} {wt:Nat→Bool} {K:Nat→Prop} {sk:Nat} {T:Bool→World→List A→Prop} {go:List A→Bool} {b:Bd} {left:Nat} {told:List A} {w w':World}
theorem D.F8 {a:A} (h:aX a=true):∀ t ∈ a.args,t.var=false→t.name ≠ ⟨#[]⟩:=fun t y hv=>by
 unfold aX at h;simp only [ο,decide_eq_true_eq,List.all_eq_true] at h;have:=h.2 t y;unfold iM at this;rw [hv] at this;exact rP (by simpa using this)
theorem D.mQ {a:A} (h:aX a=true):a.args.length≤3:=by
 unfold aX at h;simp only [ο,decide_eq_true_eq] at h;exact h.1.2
theorem D.Ue (E:qp vars fs ps ns head wt) (I:rO b) (hc:∀ n ∈ ns,wF b n.args) (h:xq fs ns b=true) (σ:Wo):¬ tH fs ps ns b left σ:=by
 rintro ⟨h1,_,J⟩;obtain ⟨n,y,U⟩:=List.any_eq_true.1 h;have:=(xu E.fok (sS (E.nok n y) I (hc n y))).1 U;rw [jO (hc n y) h1] at this;exact J n y this
theorem D.Uf (E:qp vars fs ps ns head wt) (I:rO b) (hc:∀ n ∈ ns,wF b n.args) (h:xq fs ns b=false):∀ n ∈ ns,bQ n b ∉ fs:=fun n y hm=>by
 have h1:decide (bU (bQ n b) ∈ fs.map bU)=true:=(xu E.fok (sS (E.nok n y) I (hc n y))).2 hm;have:xq fs ns b=true:=List.any_eq_true.2 ⟨n,y,h1⟩;rw [h] at this; cases this
theorem D.Ug (hc:wF b head.args) {y:List A} (U:∀ t ∈ y,∃ σ,tH fs ps ns b left σ∧fH σ head=t) (I:y ≠ []) (σ:Wo) (h:tH fs ps ns b left σ):fH σ head ∈ y:=by
 obtain ⟨t,J⟩:=List.exists_mem_of_ne_nil y I;obtain ⟨σ0,h0,e0⟩:=U t J;rw [← jO hc h.1,jO hc h0.1,e0]; exact J
end
end
end Go.Proofs.YtkjinanbccloeaaGreatDoor
