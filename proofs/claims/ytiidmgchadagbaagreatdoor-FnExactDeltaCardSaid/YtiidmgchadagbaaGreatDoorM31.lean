/- Of the proof of FnExactDelta: SetI, WanI, UndI. -/
import Derived.Test.YtiidmgchadagbaaGreatDoorM27
import Derived.Test.YtiidmgchadagbaaGreatDoorM28
set_option linter.unusedVariables false
set_option maxHeartbeats 4000000
set_option maxRecDepth 100000
namespace Go.Proofs.YtiidmgchadagbaaGreatDoor
open Go.RowKit D
attribute [local go_sem ↓] Go.wp_at_zero Go.wp_at_succ
theorem D.Qq (cs:Array Value) (k:Nat) (v:Bool) (hk:k < 12) (h:cs[k]? = some (.bool v)) (w:World):(Instr.index 202 (.agg cs) (.int .i64 k)).run Tryz.prog w=.ok (.bool v) w:=by
 have h1:(Tryz.prog.info? 4).map (fun i=>i.size)=some 1:=by kernel_rfl
 obtain ⟨i0,hi0,hi1⟩:=Option.map_eq_some_iff.1 h1;simp [Instr.index,asIntOf,run_underlying Tryz.underlying202,run_underlying Tryz.underlying4,sizeOf,typeInfo,hi0,hi1,part,isAgg,h,hk,Result.andThen]
theorem um (vars:List ByteArray) (b:Bd) (sk sb:Nat) (v1 v2:Value) (wt:Nat→Bool) (io:Bool) (ah:Int) (tell:Value) (w:World) (h:lN sk sb v1 v2 wt io ah tell w) (hb:iJ vars b sk 18 w):
  Calls Tryz.prog 197 #[.pointer (some ⟨sk,0,none⟩)] w fun e w'=>e=.returned (.bool (setB vars b wt))∧Below w.heap.size w w':=by
 have w0:=h.wd 0 (by omega);have w1:=h.wd 1 (by omega);have w2:=h.wd 2 (by omega);have w3:=h.wd 3 (by omega);have w4:=h.wd 4 (by omega);have w5:=h.wd 5 (by omega);have w6:=h.wd 6 (by omega);have w7:=h.wd 7 (by omega);have w8:=h.wd 8 (by omega);have w9:=h.wd 9 (by omega);have w10:=h.wd 10 (by omega);have w11:=h.wd 11 (by omega);simp only [Nat.add_zero,Nat.reduceAdd] at w0 w1 w2 w3 w4 w5 w6 w7 w8 w9 w10 w11;have HB:=η hb;clear h hb
 go_enter Tryz.func197,Tryz.ntmps197
 go_wp2
 have hcs0:∀ i,i < 12→(#[.bool (wt 0),.bool (wt 1),.bool (wt 2),.bool (wt 3),.bool (wt 4),.bool (wt 5),.bool (wt 6),.bool (wt 7),.bool (wt 8),.bool (wt 9),.bool (wt 10),.bool (wt 11)]:Array Value)[i]? = some (.bool (wt i)):=by
  intro i hi;have:i=0∨i=1∨i=2∨i=3∨i=4∨i=5∨i=6∨i=7∨i=8∨i=9∨i=10∨i=11:=by omega
  rcases this with rfl | rfl | rfl | rfl | rfl | rfl | rfl | rfl | rfl | rfl | rfl | rfl <;> rfl
 have HCS:=η hcs0;clear hcs0 w0 w1 w2 w3 w4 w5 w6 w7 w8 w9 w10 w11;generalize (#[.bool (wt 0),.bool (wt 1),.bool (wt 2),.bool (wt 3),.bool (wt 4),.bool (wt 5),.bool (wt 6),.bool (wt 7),.bool (wt 8),.bool (wt 9),.bool (wt 10),.bool (wt 11)]:Array Value)=cs at *
 go_loopw [9] (fun i wr=>∃ (k:Nat),k≤12∧i=.int .i64 k∧(∀ j,j < k→wt j=true→Hz vars b j ≠ ⟨#[]⟩)∧wr=w) (fun i _=>12 - (intOf i).toNat)
 case atStart=>exact ⟨0,Nat.zero_le _,rfl,fun j hj=>by omega,rfl⟩
 case round=>
  obtain ⟨k,hk,rfl,hall,rfl⟩:=hrel;by_cases hlt:k < 12
  ·have hk0:(0:Int)≤(k:Int):=by omega
   have hk1:(k:Int) < 12:=by omega
   have hc:=Qq cs k (wt k) hlt (HCS.out k hlt) wr;have y0:=HB.out.wd k hlt;have HLT:=η hlt;have HALL:=η hall;clear hall hk hlt;cases hwk:wt k
   ·rw [hwk] at hc
    have HK:Hid (∀ j,j < k+1→wt j=true→Hz vars b j ≠ ⟨#[]⟩):=η fun j hj hw=>by
     rcases Nat.lt_succ_iff_lt_or_eq.1 hj with h | rfl
     ·exact HALL.out j h hw
     ·rw [hwk] at hw; cases hw
    go_wp2;go_roundw
    case rel=>exact ⟨k+1,HLT.out,by go_num,HK.out,by trivial⟩
    case measure=>have:=HLT.out; simp [intOf]; omega
   ·rw [hwk] at hc
    by_cases hw:Hz vars b k=⟨#[]⟩
    ·have hw':=Dv
     rw [hw] at y0
     have HF:Hid (setB vars b wt=false):=η (by
      cases h:setB vars b wt
      ·rfl
      ·exact absurd hw (Dq.1 h k HLT.out hwk))
     go_wp2;go_ret;rw [HF.out];exact ⟨rfl,Below.refl _ _⟩
    ·have hw':=yu hw
     have HK:Hid (∀ j,j < k+1→wt j=true→Hz vars b j ≠ ⟨#[]⟩):=η fun j hj hw2=>by
      rcases Nat.lt_succ_iff_lt_or_eq.1 hj with h | rfl
      ·exact HALL.out j h hw2
      ·exact hw
     go_wp2;go_roundw
     case rel=>exact ⟨k+1,HLT.out,by go_num,HK.out,by trivial⟩
     case measure=>have:=HLT.out; simp [intOf]; omega
  ·have he:k=12:=by omega
   subst he;have HF:Hid (setB vars b wt=true):=η (Dq.2 hall);go_wp2;go_ret;rw [HF.out];exact ⟨rfl,Below.refl _ _⟩
def D.gG (vars:List ByteArray) (ts:List T) (i:Nat):Bool:=ts.any fun t=>t.var && vars.idxOf t.name == i
theorem D.NK (vars:List ByteArray) (ts:List T) (k i:Nat) (h:k < ts.length):gG vars (ts.take (k+1)) i=(gG vars (ts.take k) i || (ts[k].var && vars.idxOf ts[k].name == i)):=by
 unfold gG;rw [List.take_succ_eq_append_getElem h,List.any_append];simp
structure D.iL (sk:Nat) (w w':World):Prop where
 grow:w.grownBy w' (some sk)
 rest:∀ q,(q < 4∨16≤q)→w'.cell? ⟨sk,q,none⟩=w.cell? ⟨sk,q,none⟩
 frz:∀ q,w'.frozen? ⟨sk,q,none⟩=w.frozen? ⟨sk,q,none⟩
theorem D.iL.trans {sk:Nat} {w w' w2:World} (h:iL sk w w') (k:iL sk w' w2):iL sk w w2:=
 ⟨⟨k.grow.os.trans h.grow.os,k.grow.tape.trans h.grow.tape,k.grow.output.trans h.grow.output,Nat.le_trans h.grow.size k.grow.size,fun i hi hne=>(k.grow.block i (Nat.lt_of_lt_of_le hi h.grow.size) hne).trans (h.grow.block i hi hne)⟩,
  fun q hq=>(k.rest q hq).trans (h.rest q hq),fun q=>(k.frz q).trans (h.frz q)⟩
theorem D.iL.of_below {sk:Nat} {w w':World} (h:Below w.heap.size w w') (hb:sk < w.heap.size):iL sk w w':=
 ⟨⟨h.os,h.tape,h.output,h.size,fun i hi _=>h.block i hi⟩,fun q _=>World.cell?_of_block (h.block _ hb),fun q=>World.frozen?_of_block (h.block _ hb)⟩
theorem D.iL.put {sk:Nat} (w:World) (i:Nat) (hi:i < 12) (v:Value):iL sk w (w.setCell ⟨sk,4+i,none⟩ v):=
 ⟨⟨rfl,rfl,rfl,by simp [World.setCell],fun k _ hne=>Below.heap_setCell _ _ _ _ (fun e=>hne (by rw [e]))⟩,
  fun q hq=>World.cell?_setCell_other _ _ _ _ (fun e=>by injection e with _ e2 _; omega),fun q=>World.frozen?_setCell _ _ _ _⟩
theorem D.iJ.wt {vars:List ByteArray} {b:Bd} {sk:Nat} {w w':World} (h:iJ vars b sk 18 w) (k:iL sk w w'):iJ vars b sk 18 w':=
 ⟨fun i hi=>(k.rest _ (by omega)).trans (h.wd i hi),fun i hi=>by obtain ⟨z,h1,h2⟩:=h.bd i hi; exact ⟨z,(k.rest _ (by omega)).trans h1,h2⟩,(k.rest _ (by omega)).trans h.ct,fun i hi=>(k.frz _).trans (h.fz i hi)⟩
theorem D.lN.put {sk sb:Nat} {v1 v2:Value} {wt:Nat→Bool} {io:Bool} {ah:Int} {tell:Value} {w:World} (h:lN sk sb v1 v2 wt io ah tell w) (j:Nat) (hj:j < 12) (wt':Nat→Bool) (hw:∀ i,i < 12→wt' i=(wt i || j == i)):
  lN sk sb v1 v2 wt' io ah tell (w.setCell ⟨sk,4+j,none⟩ (.bool true)):=by
 have k:=iL.put (sk:=sk) w j hj (.bool true);have c:=D.jU w sk (4+j) (.bool true) (h.wd j hj);refine ⟨(k.rest _ (by omega)).trans h.st,(k.rest _ (by omega)).trans h.p1,(k.rest _ (by omega)).trans h.p2,fun i hi=>?_,(k.rest _ (by omega)).trans h.io,(k.rest _ (by omega)).trans h.ah,(k.rest _ (by omega)).trans h.tl⟩;rw [c,hw i hi];by_cases e:i=j
 ·subst e; simp
 ·rw [if_neg (by omega),h.wd i hi]
  have:(j == i)=false:=beq_eq_false_iff_ne.2 (fun e2=>e e2.symm);rw [this,Bool.or_false]
theorem Ko (vars : List ByteArray) (hv : jT vars) (a : A) (Ae : Option Addr) (ce : Nat) (b1 : List Nat) (sk sb : Nat) (v1 v2 : Value) (wt : Nat → Bool) (io : Bool) (ah : Int) (tell : Value) (w : World) (h : lN sk sb v1 v2 wt io ah tell w)
    (hf : ∀ q, w.frozen? ⟨sk, q, none⟩ = false) (ha : kP vars w [.slice Ae a.args.length ce] a.args b1) (hin : ∀ t ∈ a.args, t.var = true → t.name ∈ vars) (h1 : sk ∉ b1) (hal : a.args.length ≤ 1000000) :
    Calls Tryz.prog 141 #[.pointer (some ⟨sk, 0, none⟩), .agg #[.string a.name, .slice Ae a.args.length ce]] w fun e w' => e = .returned (.tuple #[]) ∧ lN sk sb v1 v2 (fun i => wt i || gG vars a.args i) io ah tell w' ∧ iL sk w w' := by
  obtain ⟨an, args⟩ := a;dsimp only at *;have hsk := h.lt;have hA : Below w.heap.size w (w.alloc (.cells #[.string an, .slice Ae args.length ce] 199)) := (Below.refl _ _).alloc (Nat.le_refl _) _
  have HI0 : Hid (lN sk sb v1 v2 (fun i => wt i || gG vars (args.take 0) i) io ah tell (w.alloc (.cells #[.string an, .slice Ae args.length ce] 199)) ∧ iL sk w (w.alloc (.cells #[.string an, .slice Ae args.length ce] 199))) :=
    Lib.hid ⟨by have e : (fun i => wt i || gG vars (args.take 0) i) = wt := funext fun i => by simp [gG]
                rw [e]; exact h.keep (hA.block _ hsk), iL.of_below hA hsk⟩
  have HX := Lib.hid (And.intro ha (And.intro hin hf));clear h ha hin hf hA
  go_enter Tryz.func141, Tryz.ntmps141
  go_wp2;generalize w.alloc (.cells #[.string an, .slice Ae args.length ce] 199) = W at *
  go_loopw [9] (fun i wr => ∃ (k : Nat), k ≤ args.length ∧ i = .int .i64 k ∧ lN sk sb v1 v2 (fun i => wt i || gG vars (args.take k) i) io ah tell wr ∧ iL sk w wr) (fun i _ => args.length - (intOf i).toNat)
  case atStart => exact ⟨0, Nat.zero_le _, rfl, HI0.out⟩
  case round =>
    obtain ⟨k, hk, rfl, hI, hK⟩ := hrel;clear HI0;by_cases hlt : k < args.length
    · have hws := hK.grow.size
      have hsl : kP vars wr [.slice Ae args.length ce] args b1 := (dm vars).keep HX.out.1 fun b hb => hK.grow.block b ((dm vars).lt HX.out.1 b hb) (fun e => h1 (by injection e with e; rw [← e]; exact hb))
      obtain ⟨bq, oq, rfl, _, f0, f1, hsz⟩ := xP hsl hlt;have hk0 : (0 : Int) ≤ (k : Int) := by omega
      have hk1 : (k : Int) < (args.length : Int) := by omega
      have HIN := Lib.hid (HX.out.2.1 _ (List.getElem_mem hlt));have HWN : Hid (∀ i, gG vars (args.take (k + 1)) i = (gG vars (args.take k) i || (args[k].var && vars.idxOf args[k].name == i))) := Lib.hid fun i => NK vars args k i hlt
      have hA2 : Below wr.heap.size wr (wr.alloc (.cells #[.int .i64 (jR vars args[k]), .string (jS args[k])] 246)) := (Below.refl _ _).alloc (Nat.le_refl _) _;have hskr : sk < wr.heap.size := by omega
      have hI2 := hI.keep (hA2.block _ hskr);have HK2 := Lib.hid (hK.trans (iL.of_below hA2 hskr));have HLT := Lib.hid hlt;have hz0 : (wr.alloc (.cells #[.int .i64 (jR vars args[k]), .string (jS args[k])] 246)).cell? ⟨wr.heap.size, 0, none⟩ = some (.int .i64 (jR vars args[k])) := by go_simp
      clear hI hK hA2 hsz hk hsl;generalize hsn : jR vars args[k] = sn at *;generalize jS args[k] = ss at *;generalize args[k] = t at *;clear hlt;have HSN := Lib.hid hsn;have HNE : Hid (sk ≠ wr.heap.size) := Lib.hid (by omega);clear hsn;cases htv : t.var
      · have hs : sn = -1 := by rw [← HSN.out]; unfold jR; simp [htv]
        subst hs
        have HI3 : Hid (lN sk sb v1 v2 (fun i => wt i || gG vars (args.take (k + 1)) i) io ah tell (wr.alloc (.cells #[.int .i64 (-1), .string ss] 246))) := Lib.hid (by
          have e : (fun i => wt i || gG vars (args.take (k + 1)) i) = fun i => wt i || gG vars (args.take k) i := funext fun i => by rw [HWN.out]; simp [htv]
          rw [e]; exact hI2)
        clear hI2;go_wp2;go_roundw
        case rel => exact ⟨k + 1, HLT.out, by go_num, HI3.out, HK2.out⟩
        case measure => have := HLT.out; simp [intOf]; omega
      · have hn := HIN.out htv
        have hi := List.idxOf_lt_length_of_mem hn;have hfew := hv.few;have hs : sn = ((vars.idxOf t.name : Nat) : Int) := by rw [← HSN.out]; unfold jR; simp [htv]
        subst hs;have hj : vars.idxOf t.name < 12 := by omega
        have hwn : ∀ i, i < 12 → (wt i || gG vars (args.take (k + 1)) i) = ((wt i || gG vars (args.take k) i) || vars.idxOf t.name == i) := fun i _ => by rw [HWN.out]; simp [htv, Bool.or_assoc]
        clear htv HSN hn hi HIN HWN;generalize vars.idxOf t.name = j at *;have y0 := hI2.wd j hj;have y1 : (wr.alloc (.cells #[.int .i64 (j : Nat), .string ss] 246)).frozen? ⟨sk, 4 + j, none⟩ = false := (HK2.out.frz _).trans (HX.out.2.2 _);have hj0 : (0 : Int) ≤ (j : Int) := by omega
        have hj1 : (j : Int) < 12 := by omega
        have HI3 := Lib.hid (hI2.put j hj (fun i => wt i || gG vars (args.take (k + 1)) i) hwn);have HK3 := Lib.hid (HK2.out.trans (iL.put _ j hj (.bool true)));clear hI2 HK2 hwn;go_wp2;generalize wr.alloc (.cells #[.int .i64 (j : Nat), .string ss] 246) = W1 at *;go_region;have HI4 : Hid (lN sk sb v1 v2 (fun i => wt i || gG vars (args.take (k + 1)) i) io ah tell (W1.setCell ⟨sk, 4 + j, none⟩ (.bool true)).drew) := Lib.hid (HI3.out.keep rfl);have HK4 : Hid (iL sk w (W1.setCell ⟨sk, 4 + j, none⟩ (.bool true)).drew) := Lib.hid (HK3.out.trans (iL.of_below ((Below.refl _ _).drew) HI3.out.lt));go_wp2;go_roundw
        case rel => exact ⟨k + 1, HLT.out, by go_num, HI4.out, HK4.out⟩
        case measure => have := HLT.out; simp [intOf]; omega
    · have he : k = args.length := by omega
      have hk1 : ¬ (k : Int) < (args.length : Int) := by omega
      rw [List.take_of_length_le (Nat.le_of_eq he.symm)] at hI;have HP := Lib.hid (And.intro hI hK);clear hI hK;go_wp2
      go_end0
      exact ⟨rfl, HP.out⟩
def D.Kq (w:World) (blk o:Nat):Nat:=match w.cell? ⟨blk,o+24,none⟩ with | some (.int _ n)=>n.toNat | _=>0
theorem D.iJ.cnt {vars:List ByteArray} {b:Bd} {blk o:Nat} {w:World} (h:iJ vars b blk o w):Kq w blk o=b.length:=by unfold Kq; rw [h.ct]; simp
theorem Kr (vars:List ByteArray) (hv:jT vars) (b:Bd) (hbo:jJ vars b) (m:Nat) (hm:m≤b.length) (blk o:Nat) (w:World) (hb:iJ vars b blk o w):
  Calls Tryz.prog 201 #[.pointer (some ⟨blk,o,none⟩),.int .i64 m] w fun e w'=>e=.returned (.tuple #[])∧lG vars blk o w (b.take m) w':=by
 have hblk:=hb.lt;have HI0:Hid (lG vars blk o w b w):=η ⟨hb,hbo,dD.refl _ _ _⟩;clear hb
 go_enter Tryz.func201,Tryz.ntmps201
 go_wp2
 go_loopw [] (fun wr=>∃ (k:Nat),m≤k∧k≤b.length∧lG vars blk o w (b.take k) wr) (fun wr=>Kq wr blk o)
 case atStart=>exact ⟨b.length,hm,Nat.le_refl _,by rw [List.take_of_length_le (Nat.le_refl _)]; exact HI0.out⟩
 case round=>
  obtain ⟨k,hmk,hkb,hI⟩:=hrel;clear HI0;have hct:=hI.at_.ct;have hlk:(b.take k).length=k:=by simp; omega
  rw [hlk] at hct;by_cases hlt:m < k
  ·obtain ⟨k,rfl⟩:∃ k',k=k'+1:=⟨k - 1,by omega⟩
   have hkb':k < b.length:=by omega
   have hsn:b.take (k+1)=b.take k ++ [(b[k].1,b[k].2)]:=List.take_succ_eq_append_getElem hkb';have hok:=hI.ok;rw [hsn] at hok;have hlk0:(b.take k).length=k:=by simp; omega
   obtain ⟨hok0,hn,hun⟩:=hok.init;dsimp only at hn hun;have hat:=hI.at_;rw [hsn] at hat;have hub:=hat.unbind hv hok;rw [hlk0] at hub;have hi:=List.idxOf_lt_length_of_mem hn;have hfew:=hv.few;have hlen:=hok0.len;rw [hlk0] at hlen;obtain ⟨z,hz1,hz2⟩:=hI.at_.bd k (by have:=hok.len; simp at this; omega)
   have hz3:z=(vars.idxOf b[k].1:Nat):=by
    rw [hz2 (by omega)];simp
   subst hz3;have x0:=hI.at_.wd (vars.idxOf b[k].1) (by omega);have x1:=hI.at_.fz (vars.idxOf b[k].1) (by omega);have x3:=hI.at_.fz 24 (by omega);have hcm:=hI.at_.cnt;rw [hlk] at hcm;have HK:=η hI.kept;have k12:k < 12:=by have:=hok.len; simp at this; omega
   clear hI hat hz2 hok hsn hn hun;generalize vars.idxOf b[k].1=j at *;have hm1:(m:Int) < ((k+1:Nat):Int):=by omega
   have hk0:(0:Int)≤(k:Int):=by omega
   have hk1:(k:Int) < 12:=by omega
   have hj0:(0:Int)≤(j:Int):=by omega
   have hj1:(j:Int) < 12:=by omega
   have e1:((k+1:Nat):Int) - 1=(k:Int):=by omega
   have p1:=D.jU wr blk (o+24) (.int .i64 (k:Nat)) hct;have c1:(wr.setCell ⟨blk,o+24,none⟩ (.int .i64 (k:Nat))).cell? ⟨blk,o+24,none⟩=some (.int .i64 (k:Nat)):=(p1 _).trans (if_pos rfl);have c2:(wr.setCell ⟨blk,o+24,none⟩ (.int .i64 (k:Nat))).cell? ⟨blk,o+12+k,none⟩=some (.int .i64 (j:Nat)):=((p1 _).trans (if_neg (by omega))).trans hz1;have c3:(wr.setCell ⟨blk,o+24,none⟩ (.int .i64 (k:Nat))).cell? ⟨blk,o+j,none⟩=_:=((p1 _).trans (if_neg (by omega))).trans x0;have c4:(wr.setCell ⟨blk,o+24,none⟩ (.int .i64 (k:Nat))).frozen? ⟨blk,o+j,none⟩=false:=(World.frozen?_setCell _ _ _ _).trans x1
   have hkp:dD blk o w (((wr.setCell ⟨blk,o+24,none⟩ (.int .i64 (k:Nat))).setCell ⟨blk,o+j,none⟩ (.string ⟨#[]⟩)).drew):=by
    have k1:=HK.out.trans (dD.put wr 24 (by omega) (.int .i64 (k:Nat)));have k2:=k1.trans (dD.put _ j (by omega) (.string ⟨#[]⟩));exact k2.trans (dD.of_below ((Below.refl _ _).drew) (Nat.lt_of_lt_of_le hblk k2.grow.size))
   have HP:Hid (lG vars blk o w (b.take k) (((wr.setCell ⟨blk,o+24,none⟩ (.int .i64 (k:Nat))).setCell ⟨blk,o+j,none⟩ (.string ⟨#[]⟩)).drew)):=η ⟨hub.keep rfl,hok0,hkp⟩;have HN:=η (And.intro hmk (And.intro hlt hkb));have HCM:=η hcm;have HL:=η hlk0;clear hub hok0 hkp p1 hlk hlk0 hcm;go_wp2;go_region;have HM:Hid (Kq (((wr.setCell ⟨blk,o+24,none⟩ (.int .i64 (k:Nat))).setCell ⟨blk,o+j,none⟩ (.string ⟨#[]⟩)).drew) blk o < Kq wr blk o):=η (by rw [HP.out.at_.cnt,HL.out,HCM.out]; omega);clear c1 c2 c3 c4 x0 x1 x3 hct hz1;generalize (((wr.setCell ⟨blk,o+24,none⟩ (.int .i64 (k:Nat))).setCell ⟨blk,o+j,none⟩ (.string ⟨#[]⟩)).drew)=S1 at *;go_wp2;go_roundw
   case rel=>exact ⟨k,by have:=HN.out; omega,by have:=HN.out; omega,HP.out⟩
   case measure=>exact HM.out
  ·have he:k=m:=by omega
   subst he;have hk1:¬ (k:Int) < (k:Int):=by omega
   have HP:=η hI;clear hI;go_wp2
   go_end0
   exact ⟨rfl,HP.out⟩
end Go.Proofs.YtiidmgchadagbaaGreatDoor
