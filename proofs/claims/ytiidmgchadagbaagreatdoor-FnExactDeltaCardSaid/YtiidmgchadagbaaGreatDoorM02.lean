/- Of the proof of FnExactDelta: Kind. -/
import Derived.Deep.AppendLies
import Derived.Lib.IndexBytes
import Derived.Deep.Fields
import Derived.Lib.Hide
import Derived.Laws.EntriesVeiled
import Derived.Deep.RegionHeld3
import Derived.BigQuiet
import Derived.Deep.DrawnRows
import Derived.WalkSpells
import Derived.WalkLawsBesides
import Derived.Laws.CopyOwn
import Derived.OwnWalkIn
import Derived.Test.YtiidmgchadagbaaGreatDoorM00
set_option linter.unusedVariables false
namespace Go.Proofs.YtiidmgchadagbaaGreatDoor.D
open Go.RowKit
def low (c:UInt8):Bool:=(97≤c && c≤122) || (48≤c && c≤57)
def oL (l:List UInt8):Bool:=l.all low
def iQ (s:ByteArray):Bool:=decide (1≤s.size) && decide (s.size≤8) && oL s.data.toList && !(s.toList == [110,111,116])
theorem wP (c:UInt8):low c=false ↔ ((c.toNat:Int) < 97∨122 < (c.toNat:Int))∧((c.toNat:Int) < 48∨57 < (c.toNat:Int)):=by
 unfold low;simp only [Bool.or_eq_false_iff,Bool.and_eq_false_iff,decide_eq_false_iff_not,UInt8.le_iff_toNat_le,Nat.not_le];have h97:(97:UInt8).toNat=97:=rfl;have h122:(122:UInt8).toNat=122:=rfl;have h48:(48:UInt8).toNat=48:=rfl;have h57:(57:UInt8).toNat=57:=rfl;rw [h97,h122,h48,h57];omega
theorem take_snoc (s:ByteArray) (k:Nat) (h:k < s.size):s.data.toList.take (k+1)=s.data.toList.take k ++ [s[k]]:=by
 rw [List.take_succ_eq_append_getElem (by simpa using h)]; rfl
theorem Em (s:ByteArray) (k:Nat) (h:k < s.size) (h0:oL (s.data.toList.take k)=true):oL (s.data.toList.take (k+1))=low s[k]:=by
 rw [take_snoc s k h]; unfold oL at *; simp [List.all_append,h0]
theorem Ii (s:ByteArray) (k:Nat) (h:k < s.size) (h0:low s[k]=false):oL s.data.toList=false:=by
 unfold oL;rw [List.all_eq_false];exact ⟨s[k],by rw [show s[k]=s.data.toList[k]'(by simpa using h) from rfl]; exact List.getElem_mem _,by simp [h0]⟩
theorem Ij (s:ByteArray):oL (s.data.toList.take s.size)=oL s.data.toList:=by
 rw [List.take_of_length_le (by simp)]
def big (c:UInt8):Bool:=65≤c && c≤90
def rU (s:ByteArray):Bool:=decide (0 < s.size) && big (s.data.toList.headD 0)
def wQ (s:ByteArray):Bool:=decide (s.size≤8) && rU s && oL s.data.toList.tail
theorem Au (c:UInt8):big c=true ↔ 65≤(c.toNat:Int)∧(c.toNat:Int)≤90:=by
 unfold big;simp only [Bool.and_eq_true,decide_eq_true_eq,UInt8.le_iff_toNat_le];have h65:(65:UInt8).toNat=65:=rfl;have h90:(90:UInt8).toNat=90:=rfl;rw [h65,h90];omega
theorem Ik (s:ByteArray) (h:0 < s.size):s.data.toList.headD 0=s[0]:=by
 have h':0 < s.data.toList.length:=by simpa using h
 rw [show s[0]=s.data.toList[0]'h' from rfl];rw [List.headD_eq_head?_getD,List.head?_eq_getElem?,List.getElem?_eq_getElem h'];rfl
theorem Il (s:ByteArray) (h:0 < s.size):s.toList.isEmpty=false:=by
 rw [ByteArray.toList_eq,List.isEmpty_eq_false_iff];intro e;have:s.data.toList.length=0:=by rw [e]; rfl
 simp at this;have h':s.data.size=0:=by simp [this]
 have:s.size=s.data.size:=rfl;omega
theorem QW (s:ByteArray) (h:¬ 0 < s.size):s.toList.isEmpty=true:=by
 rw [ByteArray.toList_eq,List.isEmpty_iff,← List.length_eq_zero_iff];have:s.size=s.data.size:=rfl;simp;have:s.data.size=0:=by omega
 simpa using this
theorem QX {s:ByteArray} (h:rU s=true):(1:Int)≤(s.size:Int):=by
 unfold rU at h; simp at h; omega
theorem tail_at (s:ByteArray):(s.extract 1 s.size).data.toList=s.data.toList.tail:=by
 rw [Lib.extract_to_end,List.drop_one]
theorem aO {a b:Bool} (h:a=b):Ending.returned (.bool a)=.returned (.bool b):=by rw [h]
theorem eF {k:IntKind} {a b:Int} (h:a=b):Ending.returned (.int k a)=.returned (.int k b):=by rw [h]
theorem Ob {a b:ByteArray} (h:a=b):Ending.returned (.string a)=.returned (.string b):=by rw [h]
structure T where
 var:Bool
 name:ByteArray
structure A where
 name:ByteArray
 args:List T
structure Pt where
 no:Bool
 atom:A
structure Ru where
 head:A
 body:List Pt
structure Ch where
 comes:List A
 goes:List A
def jd (t:T):Bool:=if t.var then wQ t.name else iQ t.name
def aZ (a:A):Bool:=iQ a.name && decide (a.args.length≤3) && a.args.all jd
abbrev Rel (α:Type):=World→List Value→α→List Nat→Prop
structure Good {α:Type} (R:Rel α):Prop where
 keep:∀ {w w':World} {cs:List Value} {x:α} {bs:List Nat},R w cs x bs→(∀ b ∈ bs,w'.heap[b]? = w.heap[b]?)→R w' cs x bs
 lt:∀ {w:World} {cs:List Value} {x:α} {bs:List Nat},R w cs x bs→∀ b ∈ bs,b < w.heap.size
theorem Good.below {α:Type} {R:Rel α} (g:Good R) {w w':World} {cs:List Value} {x:α} {bs:List Nat} (h:R w cs x bs) (hb:Below w.heap.size w w'):R w' cs x bs:=
 g.keep h fun b hbs=>hb.block b (g.lt h b hbs)
theorem Good.QY {α:Type} {R:Rel α} (g:Good R) {B:Nat} {w w':World} {cs:List Value} {x:α} {bs:List Nat} (h:R w cs x bs) (hb:Below B w w') (hB:∀ b ∈ bs,b < B):R w' cs x bs:=
 g.keep h fun b hbs=>hb.block b (hB b hbs)
theorem lt_of_cell {w:World} {p:Addr} {v:Value} (h:w.cell? p=some v):p.block < w.heap.size:=by
 rcases Nat.lt_or_ge p.block w.heap.size with h' | h'
 ·exact h'
 ·simp [World.cell?,Array.getElem?_eq_none h'] at h
def nD:Rel T:=fun _ cs t bs=>cs = [.bool t.var,.string t.name]∧t.name.size≤maxLen∧bs = []
def iR {α:Type} (n:Nat) (R:Rel α):Rel (List α):=fun w cs xs bs=>
 ∃ Ad cap,cs = [.slice Ad xs.length cap]∧xs.length≤cap∧cap≤maxLen∧(xs = []→bs = [])∧
  (xs ≠ []→∃ b o,Ad=some ⟨b,o,none⟩∧∃ (F:Nat→List Value) (G:Nat→List Nat),bs=b :: (List.range xs.length).flatMap G∧
   ∀ k x,xs[k]? = some x→(F k).length=n∧(∀ j v,(F k)[j]? = some v→w.cell? ⟨b,o+(k * n+j),none⟩=some v)∧R w (F k) x (G k))
theorem eP:Good nD:=⟨fun h _=>h,fun h b hb=>by obtain ⟨_,_,rfl⟩:=h; simp at hb⟩
theorem iY {α:Type} {n:Nat} {R:Rel α} (g:Good R) (hn:0 < n):Good (iR n R):=by
 refine ⟨fun {w w' cs x bs} h hk=>?_,fun {w cs x bs} h c hc=>?_⟩
 ·obtain ⟨Ad,cap,rfl,hl,hm,h0,h1⟩:=h
  refine ⟨Ad,cap,rfl,hl,hm,h0,fun hne=>?_⟩;obtain ⟨b,o,rfl,F,G,rfl,hF⟩:=h1 hne;refine ⟨b,o,rfl,F,G,rfl,fun k y hy=>?_⟩;obtain ⟨a1,a2,a3⟩:=hF k y hy;refine ⟨a1,fun j v hv=>?_,g.keep a3 fun c hc=>hk c ?_⟩
  ·rw [World.cell?_of_block (w:=w) (hk b (by simp))]; exact a2 j v hv
  ·have hkl:k < x.length:=(List.getElem?_eq_some_iff.1 hy).1
   exact List.mem_cons_of_mem _ (List.mem_flatMap.2 ⟨k,List.mem_range.2 hkl,hc⟩)
 ·obtain ⟨Ad,cap,rfl,hl,hm,h0,h1⟩:=h
  by_cases hne:x = []
  ·rw [h0 hne] at hc; simp at hc
  ·obtain ⟨b,o,rfl,F,G,rfl,hF⟩:=h1 hne
   rcases List.mem_cons.1 hc with rfl | hc
   ·match x,hne with
    | y :: r,_=>
     obtain ⟨a1,a2,_⟩:=hF 0 y rfl;have:∃ v,(F 0)[0]? = some v:=⟨_,List.getElem?_eq_getElem (by omega)⟩;obtain ⟨v,hv⟩:=this;exact lt_of_cell (a2 0 v hv)
   ·obtain ⟨k,hk,hck⟩:=List.mem_flatMap.1 hc
    have hk':=List.mem_range.1 hk;obtain ⟨_,_,a3⟩:=hF k x[k] (List.getElem?_eq_getElem hk');exact g.lt a3 c hck
def eY:Rel (List T):=iR 2 nD
def aU:Rel A:=fun w cs a bs=>∃ s,cs = [.string a.name,s]∧a.name.size≤maxLen∧eY w [s] a.args bs
def aI:Rel (List A):=iR 2 aU
def oN:Rel Pt:=fun w cs p bs=>∃ s,cs = [.bool p.no,.string p.atom.name,s]∧p.atom.name.size≤maxLen∧eY w [s] p.atom.args bs
def gm:Rel (List Pt):=iR 3 oN
def jK:Rel Ru:=fun w cs r bs=>∃ s b bs1 bs2,cs = [.string r.head.name,s,b]∧r.head.name.size≤maxLen∧bs=bs1 ++ bs2∧eY w [s] r.head.args bs1∧gm w [b] r.body bs2
def dO:Rel (List Ru):=iR 3 jK
def dU:Rel Ch:=fun w cs c bs=>∃ s b bs1 bs2,cs = [s,b]∧bs=bs1 ++ bs2∧aI w [s] c.comes bs1∧aI w [b] c.goes bs2
theorem aH:Good eY:=iY eP (by omega)
theorem aj:Good aU:=
 ⟨fun h hk=>by obtain ⟨s,h1,h2,h3⟩:=h; exact ⟨s,h1,h2,aH.keep h3 hk⟩,fun h=>by obtain ⟨s,h1,h2,h3⟩:=h; exact aH.lt h3⟩
theorem ai:Good aI:=iY aj (by omega)
theorem nX:Good oN:=
 ⟨fun h hk=>by obtain ⟨s,h1,h2,h3⟩:=h; exact ⟨s,h1,h2,aH.keep h3 hk⟩,fun h=>by obtain ⟨s,h1,h2,h3⟩:=h; exact aH.lt h3⟩
theorem aY:Good gm:=iY nX (by omega)
theorem En {α β:Type} {R:Rel α} {S:Rel β} (gR:Good R) (gS:Good S) {w w':World} {c d:List Value} {x:α} {y:β} {b1 b2:List Nat} (h1:R w c x b1) (h2:S w d y b2)
  (hk:∀ b ∈ b1 ++ b2,w'.heap[b]? = w.heap[b]?):R w' c x b1∧S w' d y b2:=
 ⟨gR.keep h1 fun b hb=>hk b (List.mem_append_left _ hb),gS.keep h2 fun b hb=>hk b (List.mem_append_right _ hb)⟩
theorem Oc {α β:Type} {R:Rel α} {S:Rel β} (gR:Good R) (gS:Good S) {w:World} {c d:List Value} {x:α} {y:β} {b1 b2:List Nat} (h1:R w c x b1) (h2:S w d y b2):∀ b ∈ b1 ++ b2,b < w.heap.size:=
 fun b hb=>(List.mem_append.1 hb).elim (gR.lt h1 b) (gS.lt h2 b)
theorem dY:Good jK:=
 ⟨fun h hk=>by obtain ⟨s,b,b1,b2,h1,h2,rfl,h3,h4⟩:=h; obtain ⟨h3,h4⟩:=En aH aY h3 h4 hk; exact ⟨s,b,b1,b2,h1,h2,rfl,h3,h4⟩,
  fun h=>by obtain ⟨s,b,b1,b2,h1,h2,rfl,h3,h4⟩:=h; exact Oc aH aY h3 h4⟩
theorem aC:Good dO:=iY dY (by omega)
theorem aA:Good dU:=
 ⟨fun h hk=>by obtain ⟨s,b,b1,b2,h1,rfl,h3,h4⟩:=h; obtain ⟨h3,h4⟩:=En ai ai h3 h4 hk; exact ⟨s,b,b1,b2,h1,rfl,h3,h4⟩,
  fun h=>by obtain ⟨s,b,b1,b2,h1,rfl,h3,h4⟩:=h; exact Oc ai ai h3 h4⟩
theorem jF {α:Type} {n:Nat} {R:Rel α} {w:World} {Ad:Option Addr} {len cap:Nat} {xs:List α} {bs:List Nat} (h:iR n R w [.slice Ad len cap] xs bs) {k:Nat} (hk:k < xs.length):
  ∃ b o cs bk,Ad=some ⟨b,o,none⟩∧b ∈ bs∧cs.length=n∧(∀ j v,cs[j]? = some v→w.cell? ⟨b,o+(k * n+j),none⟩=some v)∧R w cs xs[k] bk∧(∀ c ∈ bk,c ∈ bs):=by
 obtain ⟨Ad',cap',hcs,hl,hm,h0,h1⟩:=h;simp only [List.cons.injEq,Value.slice.injEq,and_true] at hcs;obtain ⟨rfl,rfl,rfl⟩:=hcs;obtain ⟨b,o,rfl,F,G,rfl,hF⟩:=h1 (by intro e; subst e; simp at hk);obtain ⟨a1,a2,a3⟩:=hF k _ (List.getElem?_eq_getElem hk);exact ⟨b,o,F k,G k,rfl,by simp,a1,a2,a3,fun c hc=>List.mem_cons_of_mem _ (List.mem_flatMap.2 ⟨k,List.mem_range.2 hk,hc⟩)⟩
theorem af {α:Type} {n:Nat} {R:Rel α} {w:World} {v:Value} {xs:List α} {bs:List Nat} (h:iR n R w [v] xs bs):
  ∃ Ad cap,v=.slice Ad xs.length cap∧xs.length≤cap∧cap≤maxLen:=by
 obtain ⟨Ad,cap,hcs,hl,hm,_⟩:=h;exact ⟨Ad,cap,by simpa using hcs,hl,hm⟩
section
variable {w:World} {Ad:Option Addr} {len cap:Nat} {bs:List Nat} {k:Nat}
theorem dV {xs:List T} (h:eY w [.slice Ad len cap] xs bs) (hk:k < xs.length):
  ∃ b o,Ad=some ⟨b,o,none⟩∧b ∈ bs∧w.cell? ⟨b,o+k * 2,none⟩=some (.bool xs[k].var)∧w.cell? ⟨b,o+k * 2+1,none⟩=some (.string xs[k].name)∧xs[k].name.size≤maxLen:=by
 obtain ⟨b,o,cs,bk,rfl,hb,hcs,hcell,⟨rfl,hnm,_⟩,_⟩:=jF h hk;exact ⟨b,o,rfl,hb,by simpa using hcell 0 _ rfl,by simpa [Nat.add_assoc] using hcell 1 _ rfl,hnm⟩
theorem QZ {xs:List A} (h:aI w [.slice Ad len cap] xs bs) (hk:k < xs.length):
  ∃ b o s bk,Ad=some ⟨b,o,none⟩∧b ∈ bs∧w.cell? ⟨b,o+k * 2,none⟩=some (.string xs[k].name)∧w.cell? ⟨b,o+k * 2+1,none⟩=some s∧xs[k].name.size≤maxLen∧eY w [s] xs[k].args bk∧∀ c ∈ bk,c ∈ bs:=by
 obtain ⟨b,o,cs,bk,rfl,hb,hcs,hcell,⟨s,rfl,hnm,ht⟩,hbk⟩:=jF h hk;exact ⟨b,o,s,bk,rfl,hb,by simpa using hcell 0 _ rfl,by simpa [Nat.add_assoc] using hcell 1 _ rfl,hnm,ht,hbk⟩
theorem Q7 {xs:List Pt} (h:gm w [.slice Ad len cap] xs bs) (hk:k < xs.length):
  ∃ b o s bk,Ad=some ⟨b,o,none⟩∧b ∈ bs∧w.cell? ⟨b,o+k * 3,none⟩=some (.bool xs[k].no)∧w.cell? ⟨b,o+k * 3+1,none⟩=some (.string xs[k].atom.name)∧w.cell? ⟨b,o+k * 3+2,none⟩=some s∧xs[k].atom.name.size≤maxLen∧
   eY w [s] xs[k].atom.args bk∧∀ c ∈ bk,c ∈ bs:=by
 obtain ⟨b,o,cs,bk,rfl,hb,hcs,hcell,⟨s,rfl,hnm,ht⟩,hbk⟩:=jF h hk;exact ⟨b,o,s,bk,rfl,hb,by simpa using hcell 0 _ rfl,by simpa [Nat.add_assoc] using hcell 1 _ rfl,by simpa [Nat.add_assoc] using hcell 2 _ rfl,hnm,ht,hbk⟩
theorem Q8 {xs:List Ru} (h:dO w [.slice Ad len cap] xs bs) (hk:k < xs.length):
  ∃ b o s q bk bq,Ad=some ⟨b,o,none⟩∧b ∈ bs∧w.cell? ⟨b,o+k * 3,none⟩=some (.string xs[k].head.name)∧w.cell? ⟨b,o+k * 3+1,none⟩=some s∧w.cell? ⟨b,o+k * 3+2,none⟩=some q∧xs[k].head.name.size≤maxLen∧
   eY w [s] xs[k].head.args bk∧gm w [q] xs[k].body bq∧(∀ c ∈ bk,c ∈ bs)∧∀ c ∈ bq,c ∈ bs:=by
 obtain ⟨b,o,cs,bkq,rfl,hb,hcs,hcell,⟨s,q,bk,bq,rfl,hnm,rfl,ht,hp⟩,hbk⟩:=jF h hk;exact ⟨b,o,s,q,bk,bq,rfl,hb,by simpa using hcell 0 _ rfl,by simpa [Nat.add_assoc] using hcell 1 _ rfl,by simpa [Nat.add_assoc] using hcell 2 _ rfl,hnm,ht,hp,fun c hc=>hbk c (List.mem_append_left _ hc),fun c hc=>hbk c (List.mem_append_right _ hc)⟩
end
def jk:Rel ByteArray:=fun _ cs s bs=>cs = [.string s]∧s.size≤maxLen∧bs = []
theorem ay:Good jk:=⟨fun h _=>h,fun h b hb=>by obtain ⟨_,_,rfl⟩:=h; simp at hb⟩
def jL:Rel (List ByteArray):=iR 1 jk
theorem cZ:Good jL:=iY ay (by omega)
def WG:Rel UInt8:=fun _ cs c bs=>cs = [.int .u8 c.toNat]∧bs = []
theorem qF {w:World} {Ad:Option Addr} {len cap k:Nat} {bs:List Nat} {xs:List ByteArray} (h:jL w [.slice Ad len cap] xs bs) (hk:k < xs.length):
  ∃ b o,Ad=some ⟨b,o,none⟩∧b ∈ bs∧w.cell? ⟨b,o+k,none⟩=some (.string xs[k])∧xs[k].size≤maxLen:=by
 obtain ⟨b,o,cs,bk,rfl,hb,hcs,hcell,⟨rfl,hnm,_⟩,_⟩:=jF h hk;exact ⟨b,o,rfl,hb,by simpa using hcell 0 _ rfl,hnm⟩
structure New (B:Nat) (w:World) (bs:List Nat):Prop where
 nodup:bs.Nodup
 own:∀ b ∈ bs,B≤b∧∃ cur e,w.heap[b]? = some (.cells cur e (0,0))
theorem New.nil (B:Nat) (w:World):New B w []:=⟨List.nodup_nil,fun b hb=>by simp at hb⟩
theorem New.lt {B:Nat} {w:World} {bs:List Nat} (h:New B w bs) {b:Nat} (hb:b ∈ bs):b < w.heap.size:=by
 obtain ⟨_,cur,e,he⟩:=h.own b hb;exact lt_of_block he
theorem New.keep {B:Nat} {w w':World} {bs:List Nat} (h:New B w bs) (hk:∀ b ∈ bs,w'.heap[b]? = w.heap[b]?):New B w' bs:=
 ⟨h.nodup,fun b hb=>⟨(h.own b hb).1,by rw [hk b hb]; exact (h.own b hb).2⟩⟩
theorem New.below {B:Nat} {w w':World} {bs:List Nat} (h:New B w bs) (hb:Below w.heap.size w w'):New B w' bs:=
 h.keep fun b hbs=>hb.block b (h.lt hbs)
theorem New.mono {B B':Nat} {w:World} {bs:List Nat} (h:New B w bs) (hB:B'≤B):New B' w bs:=⟨h.nodup,fun b hb=>⟨Nat.le_trans hB (h.own b hb).1,(h.own b hb).2⟩⟩
theorem New.append {B C:Nat} {w:World} {b1 b2:List Nat} (h1:New B w b1) (h2:New C w b2) (hBC:B≤C) (hlt:∀ b ∈ b1,b < C):New B w (b1 ++ b2):=by
 refine ⟨List.nodup_append.2 ⟨h1.nodup,h2.nodup,fun a ha b hb e=>?_⟩,fun b hb=>?_⟩
 ·subst e; have:=hlt a ha; have:=(h2.own a hb).1; omega
 ·rcases List.mem_append.1 hb with hb | hb
  ·exact h1.own b hb
  ·exact ⟨Nat.le_trans hBC (h2.own b hb).1,(h2.own b hb).2⟩
theorem own_below {w w':World} {base e size n:Nat} {v:Value} {L:List Value} (h:w.ownsRow base e size v n L) (hb:Below w.heap.size w w'):w'.ownsRow base e size v n L:=by
 refine ⟨h.1,h.2.imp id ?_⟩;rintro ⟨g,cap,cur,hv,hg,hh,r⟩;exact ⟨g,cap,cur,hv,hg,by rw [hb.block g (lt_of_block hh)]; exact hh,r⟩
theorem jA {w:World} {base e size n g cap:Nat} {L:List Value} (h:w.ownsRow base e size (.slice (some ⟨g,0,none⟩) n cap) n L) {j:Nat} (hj:j < n * size):
  (∃ u,w.cell? ⟨g,j,none⟩=some u)∧w.frozen? ⟨g,j,none⟩=false:=
 ⟨⟨_,(h.cellAt j hj).trans (List.getElem?_eq_getElem (by have:=h.1; omega))⟩,h.frozenAt j⟩
structure gX {α:Type} (n:Nat) (R:Rel α) (C:Nat) (w:World) (L:List Value) (xs:List α) (k:Nat) (bs:List Nat):Prop where
 new:New C w bs
 at_:∃ G:Nat→List Nat,bs=(List.range k).flatMap G∧∀ j (h:j < xs.length),j < k→R w ((L.drop (j * n)).take n) xs[j] (G j)
theorem gX.start {α:Type} {n:Nat} {R:Rel α} {C:Nat} {w:World} {L:List Value} {xs:List α}:gX n R C w L xs 0 []:=
 ⟨New.nil _ _,fun _=>[],rfl,fun j _ hj=>by omega⟩
theorem gX.keep {α:Type} {n:Nat} {R:Rel α} (g:Good R) {C:Nat} {w w':World} {L:List Value} {xs:List α} {k:Nat} {bs:List Nat} (h:gX n R C w L xs k bs)
  (hk:∀ b ∈ bs,w'.heap[b]? = w.heap[b]?):gX n R C w' L xs k bs:=by
 obtain ⟨h1,G,rfl,h2⟩:=h;exact ⟨h1.keep hk,G,rfl,fun j hj hjk=>g.keep (h2 j hj hjk) fun b hb=>hk b (List.mem_flatMap.2 ⟨j,List.mem_range.2 hjk,hb⟩)⟩
theorem gX.step {α:Type} {n:Nat} {R:Rel α} {C:Nat} {w:World} {L L':List Value} {xs:List α} {k:Nat} {bs b2:List Nat} {cs:List Value} (h:gX n R C w L xs k bs)
  (hL:L'.take (k * n)=L.take (k * n)) (hcs:(L'.drop (k * n)).take n=cs) (hk:k < xs.length) (hR:R w cs xs[k] b2) (hC:∃ D,C≤D∧New D w b2∧∀ b ∈ bs,b < D):gX n R C w L' xs (k+1) (bs ++ b2):=by
 obtain ⟨h1,G,rfl,h2⟩:=h;obtain ⟨D,hCD,h3,h4⟩:=hC;refine ⟨h1.append h3 hCD h4,fun j=>if j=k then b2 else G j,?_,fun j hj hjk=>?_⟩
 ·rw [List.range_succ,List.flatMap_append]
  simp only [List.flatMap_cons,List.flatMap_nil,if_true,List.append_nil]
  congr 1
  rw [List.flatMap_def,List.flatMap_def]
  congr 1
  exact List.map_congr_left fun j hj=>by rw [if_neg (by have:=List.mem_range.1 hj; omega)]
 ·by_cases e:j=k
  ·subst e
   show R w _ _ (if j=j then b2 else G j);rw [if_pos rfl,hcs];exact hR
  ·show R w _ _ (if j=k then b2 else G j)
   rw [if_neg e];have hjk':j < k:=by omega
   have hmul:j * n+n≤k * n:=by
    have:=Nat.mul_le_mul_right n (show j+1≤k by omega);rw [Nat.add_mul,Nat.one_mul] at this; exact this
   have key:∀ M:List Value,(M.drop (j * n)).take n=((M.take (k * n)).drop (j * n)).take n:=by
    intro M;rw [List.drop_take,List.take_take,Nat.min_eq_left (by omega)]
   rw [key L',hL,← key L];exact h2 j hj hjk'
theorem set2 {L:List Value} {k m:Nat} (hL:L.length=m * 2) (hk:k < m) (a b:Value):
  (((L.set (k * 2) a).set (k * 2+1) b).take (k * 2)=L.take (k * 2))∧(((L.set (k * 2) a).set (k * 2+1) b).drop (k * 2)).take 2 = [a,b]:=by
 constructor
 ·rw [List.take_set_of_le (by omega),List.take_set_of_le (by omega)]
 ·refine List.ext_getElem? fun j=>?_
  rcases j with _ | _ | j
  ·simp [List.getElem?_set,List.getElem?_drop]; omega
  ·simp [List.getElem?_set,List.getElem?_drop]; omega
  ·simp; omega
theorem WQ {L:List Value} {k m:Nat} (hL:L.length=m * 3) (hk:k < m) (a b c:Value):
  ((((L.set (k * 3) a).set (k * 3+1) b).set (k * 3+2) c).take (k * 3)=L.take (k * 3))∧((((L.set (k * 3) a).set (k * 3+1) b).set (k * 3+2) c).drop (k * 3)).take 3 = [a,b,c]:=by
 constructor
 ·rw [List.take_set_of_le (by omega),List.take_set_of_le (by omega),List.take_set_of_le (by omega)]
 ·refine List.ext_getElem? fun j=>?_
  rcases j with _ | _ | _ | j
  ·simp [List.getElem?_set,List.getElem?_drop]; omega
  ·simp [List.getElem?_set,List.getElem?_drop]; omega
  ·simp [List.getElem?_set,List.getElem?_drop]; omega
  ·simp; omega
theorem La {w:World} {base e n g cap k:Nat} {L:List Value} (h:w.ownsRow base e 2 (.slice (some ⟨g,0,none⟩) n cap) n L) (a b:Value):
  ((w.setCell ⟨g,k * 2,none⟩ a).setCell ⟨g,k * 2+1,none⟩ b).ownsRow base e 2 (.slice (some ⟨g,0,none⟩) n cap) n ((L.set (k * 2) a).set (k * 2+1) b):=
 ((h.stored _ _).1.stored _ _).1
theorem Lc {w:World} {base e n g cap k:Nat} {L:List Value} (h:w.ownsRow base e 3 (.slice (some ⟨g,0,none⟩) n cap) n L) (a b c:Value):
  (((w.setCell ⟨g,k * 3,none⟩ a).setCell ⟨g,k * 3+1,none⟩ b).setCell ⟨g,k * 3+2,none⟩ c).ownsRow base e 3 (.slice (some ⟨g,0,none⟩) n cap) n (((L.set (k * 3) a).set (k * 3+1) b).set (k * 3+2) c):=
 (((h.stored _ _).1.stored _ _).1.stored _ _).1
theorem Q9 {α:Type} {R:Rel α} (gR:Good R) {w0 wr w1:World} {base B e g cap C k:Nat} {L:List Value} {xs:List α} {bs b2:List Nat} {a b:Value}
  (how:wr.ownsRow base e 2 (.slice (some ⟨g,0,none⟩) xs.length cap) xs.length L) (hF:gX 2 R C wr L xs k bs) (hk:k < xs.length)
  (hb0:Below B w0 wr) (hb:Below wr.heap.size wr w1) (hgC:g < C) (hBg:B≤g) (hC:C≤wr.heap.size) (hR:R w1 [a,b] xs[k] b2) (hN:New wr.heap.size w1 b2):
  ((w1.setCell ⟨g,k * 2,none⟩ a).setCell ⟨g,k * 2+1,none⟩ b).ownsRow base e 2 (.slice (some ⟨g,0,none⟩) xs.length cap) xs.length ((L.set (k * 2) a).set (k * 2+1) b)∧
  gX 2 R C ((w1.setCell ⟨g,k * 2,none⟩ a).setCell ⟨g,k * 2+1,none⟩ b) ((L.set (k * 2) a).set (k * 2+1) b) xs (k+1) (bs ++ b2)∧
  Below B w0 ((w1.setCell ⟨g,k * 2,none⟩ a).setCell ⟨g,k * 2+1,none⟩ b)∧C≤((w1.setCell ⟨g,k * 2,none⟩ a).setCell ⟨g,k * 2+1,none⟩ b).heap.size:=by
 have hlt:∀ c ∈ bs,c < wr.heap.size:=fun c hc=>hF.new.lt hc
 have hgs:∀ c ∈ bs,c ≠ g:=fun c hc e=>by have:=(hF.new.own c hc).1; omega
 have hg2:∀ c ∈ b2,c ≠ g:=fun c hc e=>by have:=(hN.own c hc).1; omega
 have hs:=set2 how.1 hk a b;refine ⟨La (own_below how hb) a b,?_,?_,?_⟩
 ·refine gX.step (hF.keep gR fun c hc=>?_) hs.1 hs.2 hk (gR.keep hR fun c hc=>?_) ⟨wr.heap.size,hC,hN.keep fun c hc=>?_,hlt⟩
  ·rw [Below.heap_setCell _ _ _ _ (hgs c hc),Below.heap_setCell _ _ _ _ (hgs c hc),hb.block c (hlt c hc)]
  ·rw [Below.heap_setCell _ _ _ _ (hg2 c hc),Below.heap_setCell _ _ _ _ (hg2 c hc)]
  ·rw [Below.heap_setCell _ _ _ _ (hg2 c hc),Below.heap_setCell _ _ _ _ (hg2 c hc)]
 ·exact ((hb0.trans (hb.mono (by omega))).setCell hBg _).setCell hBg _
 ·have:=hb.size; simp; omega
theorem VE {α:Type} {R:Rel α} (gR:Good R) {w0 wr w1:World} {base B e g cap C k:Nat} {L:List Value} {xs:List α} {bs b2:List Nat} {a b c:Value}
  (how:wr.ownsRow base e 3 (.slice (some ⟨g,0,none⟩) xs.length cap) xs.length L) (hF:gX 3 R C wr L xs k bs) (hk:k < xs.length)
  (hb0:Below B w0 wr) (hb:Below wr.heap.size wr w1) (hgC:g < C) (hBg:B≤g) (hC:C≤wr.heap.size) (hR:R w1 [a,b,c] xs[k] b2) (hN:New wr.heap.size w1 b2):
  (((w1.setCell ⟨g,k * 3,none⟩ a).setCell ⟨g,k * 3+1,none⟩ b).setCell ⟨g,k * 3+2,none⟩ c).ownsRow base e 3 (.slice (some ⟨g,0,none⟩) xs.length cap) xs.length (((L.set (k * 3) a).set (k * 3+1) b).set (k * 3+2) c)∧
  gX 3 R C (((w1.setCell ⟨g,k * 3,none⟩ a).setCell ⟨g,k * 3+1,none⟩ b).setCell ⟨g,k * 3+2,none⟩ c) (((L.set (k * 3) a).set (k * 3+1) b).set (k * 3+2) c) xs (k+1) (bs ++ b2)∧
  Below B w0 (((w1.setCell ⟨g,k * 3,none⟩ a).setCell ⟨g,k * 3+1,none⟩ b).setCell ⟨g,k * 3+2,none⟩ c)∧C≤(((w1.setCell ⟨g,k * 3,none⟩ a).setCell ⟨g,k * 3+1,none⟩ b).setCell ⟨g,k * 3+2,none⟩ c).heap.size:=by
 have hlt:∀ c ∈ bs,c < wr.heap.size:=fun c hc=>hF.new.lt hc
 have hgs:∀ c ∈ bs,c ≠ g:=fun c hc e=>by have:=(hF.new.own c hc).1; omega
 have hg2:∀ c ∈ b2,c ≠ g:=fun c hc e=>by have:=(hN.own c hc).1; omega
 have hs:=WQ how.1 hk a b c;refine ⟨Lc (own_below how hb) a b c,?_,?_,?_⟩
 ·refine gX.step (hF.keep gR fun c hc=>?_) hs.1 hs.2 hk (gR.keep hR fun c hc=>?_) ⟨wr.heap.size,hC,hN.keep fun c hc=>?_,hlt⟩
  ·rw [Below.heap_setCell _ _ _ _ (hgs c hc),Below.heap_setCell _ _ _ _ (hgs c hc),Below.heap_setCell _ _ _ _ (hgs c hc),hb.block c (hlt c hc)]
  ·rw [Below.heap_setCell _ _ _ _ (hg2 c hc),Below.heap_setCell _ _ _ _ (hg2 c hc),Below.heap_setCell _ _ _ _ (hg2 c hc)]
  ·rw [Below.heap_setCell _ _ _ _ (hg2 c hc),Below.heap_setCell _ _ _ _ (hg2 c hc),Below.heap_setCell _ _ _ _ (hg2 c hc)]
 ·exact (((hb0.trans (hb.mono (by omega))).setCell hBg _).setCell hBg _).setCell hBg _
 ·have:=hb.size; simp; omega
theorem gX.slice {α:Type} {n:Nat} {R:Rel α} {C base:Nat} {w:World} {L:List Value} {xs:List α} {bs:List Nat} {e:TypeId} {g cap:Nat} (h:gX n R C w L xs xs.length bs)
  (hown:w.ownsRow base e n (.slice (some ⟨g,0,none⟩) xs.length cap) xs.length L) (hg:g ∉ bs):
  ∃ b2,iR n R w [.slice (some ⟨g,0,none⟩) xs.length cap] xs b2∧b2.Nodup∧(∀ b ∈ b2,(b=g∧base≤g)∨b ∈ bs)∧(∀ b ∈ b2,∃ cur e,w.heap[b]? = some (.cells cur e (0,0))):=by
 obtain ⟨h1,G,hbs,h2⟩:=h
 have hform:base≤g∧(∃ cur,w.heap[g]? = some (.cells cur e (0,0)))∧xs.length≤cap∧cap≤maxLen:=by
  rcases hown.2 with ⟨hv,_⟩ | ⟨g',cap',cur,hv,hb,hh,hc1,hc2,_⟩
  ·simp at hv
  ·simp only [Value.slice.injEq,Option.some.injEq,Addr.mk.injEq,and_true,true_and] at hv
   obtain ⟨rfl,rfl⟩:=hv;exact ⟨hb,⟨cur,hh⟩,hc1,hc2⟩
 obtain ⟨hbase,⟨cur,hcur⟩,hc1,hc2⟩:=hform;by_cases hne:xs = []
 ·subst hne
  exact ⟨[],⟨_,cap,rfl,hc1,hc2,fun _=>rfl,fun h=>absurd rfl h⟩,List.nodup_nil,fun b hb=>by simp at hb,fun b hb=>by simp at hb⟩
 ·refine ⟨g :: bs,⟨_,cap,rfl,hc1,hc2,fun h=>absurd h hne,fun _=>⟨g,0,rfl,fun k=>(L.drop (k * n)).take n,G,by rw [hbs],fun k x hx=>?_⟩⟩,List.nodup_cons.2 ⟨hg,h1.nodup⟩,?_,?_⟩
  ·obtain ⟨hkl,rfl⟩:=List.getElem?_eq_some_iff.1 hx
   have hmul:k * n+n≤xs.length * n:=by
    have:=Nat.mul_le_mul_right n (show k+1≤xs.length by omega);rw [Nat.add_mul,Nat.one_mul] at this; exact this
   have hlen:=hown.1;refine ⟨by simp; omega,fun j v hv=>?_,h2 k hkl hkl⟩
   have hjn:j < n:=by
    have:=(List.getElem?_eq_some_iff.1 hv).1;simp at this; omega
   rw [List.getElem?_take_of_lt hjn,List.getElem?_drop] at hv;rw [Nat.zero_add,hown.cellAt (k * n+j) (by omega)];exact hv
  ·intro b hb
   rcases List.mem_cons.1 hb with rfl | hb
   ·exact .inl ⟨rfl,hbase⟩
   ·exact .inr hb
  ·intro b hb
   rcases List.mem_cons.1 hb with rfl | hb
   ·exact ⟨cur,e,hcur⟩
   ·exact (h1.own b hb).2
def iT (ts:List T):Nat:=(ts.map (fun t=>t.name.size)).sum
def jm (a:A):Nat:=a.name.size+a.args.length+iT a.args
theorem zk (ts:List T) (k:Nat) (h:k < ts.length):iT (ts.take (k+1))=iT (ts.take k)+ts[k].name.size:=by
 unfold iT; rw [List.take_succ_eq_append_getElem h,List.map_append,List.sum_append]; simp
end Go.Proofs.YtiidmgchadagbaaGreatDoor.D
namespace Go.Proofs.YtiidmgchadagbaaGreatDoor.D
open Go.RowKit
def bI {α:Type} (f:α→Nat) (xs:List α):Nat:=(xs.map f).sum
theorem jG {α:Type} (f:α→Nat) (xs:List α) (k:Nat) (h:k < xs.length):bI f (xs.take (k+1))=bI f (xs.take k)+f xs[k]:=by
 unfold bI; rw [List.take_succ_eq_append_getElem h,List.map_append,List.sum_append]; simp
theorem pY {α:Type} (f:α→Nat) (xs:List α) (k:Nat):bI f (xs.take k)≤bI f xs:=by
 have h:bI f xs=bI f (xs.take k)+bI f (xs.drop k):=by
  conv=>lhs; rw [← List.take_append_drop k xs]
  unfold bI;rw [List.map_append,List.sum_append]
 omega
theorem wR {α:Type} (f:α→Nat) (xs:List α) (k:Nat) (h:k < xs.length):f xs[k]≤bI f xs:=by
 have:=jG f xs k h;have:=pY f xs (k+1);omega
def kM (xs:List A):Nat:=xs.length+bI jm xs
def ny (p:Pt):Nat:=jm p.atom
def oO (xs:List Pt):Nat:=xs.length+bI ny xs
def rP (r:Ru):Nat:=jm r.head+oO r.body
def vI (xs:List Ru):Nat:=xs.length+bI rP xs
def AV (c:Ch):Nat:=kM c.comes+kM c.goes
section
variable {w:World} {Ad:Option Addr} {len cap:Nat} {bs:List Nat} {k:Nat}
theorem dG {xs:List A} (h:aI w [.slice Ad len cap] xs bs) (hk:k < xs.length):
  ∃ b o Ae ce bk,Ad=some ⟨b,o,none⟩∧b ∈ bs∧w.cell? ⟨b,o+k * 2,none⟩=some (.string xs[k].name)∧w.cell? ⟨b,o+k * 2+1,none⟩=some (.slice Ae xs[k].args.length ce)∧
   aU w [.string xs[k].name,.slice Ae xs[k].args.length ce] xs[k] bk∧∀ c ∈ bk,c ∈ bs:=by
 obtain ⟨b,o,s,bk,rfl,hb,h0,h1,hnm,ht,hbk⟩:=QZ h hk;obtain ⟨Ae,ce,rfl,_⟩:=af ht;exact ⟨b,o,Ae,ce,bk,rfl,hb,h0,h1,⟨_,rfl,hnm,ht⟩,hbk⟩
theorem gJ {xs:List Pt} (h:gm w [.slice Ad len cap] xs bs) (hk:k < xs.length):
  ∃ b o Ae ce bk,Ad=some ⟨b,o,none⟩∧b ∈ bs∧w.cell? ⟨b,o+k * 3,none⟩=some (.bool xs[k].no)∧w.cell? ⟨b,o+k * 3+1,none⟩=some (.string xs[k].atom.name)∧w.cell? ⟨b,o+k * 3+2,none⟩=some (.slice Ae xs[k].atom.args.length ce)∧
   oN w [.bool xs[k].no,.string xs[k].atom.name,.slice Ae xs[k].atom.args.length ce] xs[k] bk∧∀ c ∈ bk,c ∈ bs:=by
 obtain ⟨b,o,s,bk,rfl,hb,h0,h1,h2,hnm,ht,hbk⟩:=Q7 h hk;obtain ⟨Ae,ce,rfl,_⟩:=af ht;exact ⟨b,o,Ae,ce,bk,rfl,hb,h0,h1,h2,⟨_,rfl,hnm,ht⟩,hbk⟩
theorem gq {xs:List Ru} (h:dO w [.slice Ad len cap] xs bs) (hk:k < xs.length):
  ∃ b o Ae ce Af cf bk,Ad=some ⟨b,o,none⟩∧b ∈ bs∧w.cell? ⟨b,o+k * 3,none⟩=some (.string xs[k].head.name)∧w.cell? ⟨b,o+k * 3+1,none⟩=some (.slice Ae xs[k].head.args.length ce)∧w.cell? ⟨b,o+k * 3+2,none⟩=some (.slice Af xs[k].body.length cf)∧
   jK w [.string xs[k].head.name,.slice Ae xs[k].head.args.length ce,.slice Af xs[k].body.length cf] xs[k] bk∧∀ c ∈ bk,c ∈ bs:=by
 obtain ⟨b,o,s,q,bk,bq,rfl,hb,h0,h1,h2,hnm,ht,hp,hbk,hbq⟩:=Q8 h hk;obtain ⟨Ae,ce,rfl,_⟩:=af ht;obtain ⟨Af,cf,rfl,_⟩:=af hp;exact ⟨b,o,Ae,ce,Af,cf,bk ++ bq,rfl,hb,h0,h1,h2,⟨_,_,bk,bq,rfl,hnm,rfl,ht,hp⟩,fun c hc=>(List.mem_append.1 hc).elim (hbk c) (hbq c)⟩
end
theorem oP {w:World} {c0 c1 c2:Value} {p:Pt} {bs:List Nat} (h:oN w [c0,c1,c2] p bs):∃ Ad cap,c0=.bool p.no∧c1=.string p.atom.name∧c2=.slice Ad p.atom.args.length cap:=by
 obtain ⟨s,hcs,_,ht⟩:=h;obtain ⟨Ad,cap,rfl,_⟩:=af ht;simp only [List.cons.injEq,and_true] at hcs;exact ⟨Ad,cap,hcs⟩
theorem Ld {w:World} {cs:Array Value} {p:Pt} {bs:List Nat} (h:oN w cs.toList p bs):∃ Ad cap,cs=#[.bool p.no,.string p.atom.name,.slice Ad p.atom.args.length cap]:=by
 obtain ⟨s,hcs,_,ht⟩:=h;obtain ⟨Ad,cap,rfl,_⟩:=af ht;exact ⟨Ad,cap,Array.toList_inj.1 hcs⟩
theorem gK {w:World} {c0 c1 c2:Value} {p:Pt} {bs:List Nat} (h:oN w [c0,c1,c2] p bs):aU w [c1,c2] p.atom bs:=by
 obtain ⟨s,hcs,hn,ht⟩:=h;simp only [List.cons.injEq,and_true] at hcs;obtain ⟨_,rfl,rfl⟩:=hcs;exact ⟨_,rfl,hn,ht⟩
theorem jo {w:World} {c0 c1 c2:Value} {r:Ru} {bs:List Nat} (h:jK w [c0,c1,c2] r bs):∃ Ad cap Ae cape,c0=.string r.head.name∧c1=.slice Ad r.head.args.length cap∧c2=.slice Ae r.body.length cape:=by
 obtain ⟨s,b,_,_,hcs,_,_,ht,hp⟩:=h;obtain ⟨Ad,cap,rfl,_⟩:=af ht;obtain ⟨Ae,cape,rfl,_⟩:=af hp;simp only [List.cons.injEq,and_true] at hcs;exact ⟨Ad,cap,Ae,cape,hcs⟩
theorem Lh {w:World} {cs:Array Value} {r:Ru} {bs:List Nat} (h:jK w cs.toList r bs):∃ Ad cap Ae cape,cs=#[.string r.head.name,.slice Ad r.head.args.length cap,.slice Ae r.body.length cape]:=by
 obtain ⟨s,b,_,_,hcs,_,_,ht,hp⟩:=h;obtain ⟨Ad,cap,rfl,_⟩:=af ht;obtain ⟨Ae,cape,rfl,_⟩:=af hp;exact ⟨Ad,cap,Ae,cape,Array.toList_inj.1 hcs⟩
theorem gu {w:World} {c0 c1 c2:Value} {r:Ru} {bs:List Nat} (h:jK w [c0,c1,c2] r bs):∃ b1 b2,bs=b1 ++ b2∧aU w [c0,c1] r.head b1∧gm w [c2] r.body b2:=by
 obtain ⟨s,b,b1,b2,hcs,hn,rfl,ht,hp⟩:=h;simp only [List.cons.injEq,and_true] at hcs;obtain ⟨rfl,rfl,rfl⟩:=hcs;exact ⟨b1,b2,rfl,⟨_,rfl,hn,ht⟩,hp⟩
theorem eG {w:World} {c0 c1:Value} {c:Ch} {bs:List Nat} (h:dU w [c0,c1] c bs):∃ Ad cap Ae cape,c0=.slice Ad c.comes.length cap∧c1=.slice Ae c.goes.length cape:=by
 obtain ⟨s,b,_,_,hcs,_,ht,hp⟩:=h;obtain ⟨Ad,cap,rfl,_⟩:=af ht;obtain ⟨Ae,cape,rfl,_⟩:=af hp;simp only [List.cons.injEq,and_true] at hcs;exact ⟨Ad,cap,Ae,cape,hcs⟩
theorem eU {w:World} {cs:Array Value} {c:Ch} {bs:List Nat} (h:dU w cs.toList c bs):∃ Ad cap Ae cape,cs=#[.slice Ad c.comes.length cap,.slice Ae c.goes.length cape]:=by
 obtain ⟨s,b,_,_,hcs,_,ht,hp⟩:=h;obtain ⟨Ad,cap,rfl,_⟩:=af ht;obtain ⟨Ae,cape,rfl,_⟩:=af hp;exact ⟨Ad,cap,Ae,cape,Array.toList_inj.1 hcs⟩
theorem dZ {w:World} {c0 c1:Value} {c:Ch} {bs:List Nat} (h:dU w [c0,c1] c bs):∃ b1 b2,bs=b1 ++ b2∧aI w [c0] c.comes b1∧aI w [c1] c.goes b2:=by
 obtain ⟨s,b,b1,b2,hcs,rfl,ht,hp⟩:=h;simp only [List.cons.injEq,and_true] at hcs;obtain ⟨rfl,rfl⟩:=hcs;exact ⟨b1,b2,rfl,ht,hp⟩
end Go.Proofs.YtiidmgchadagbaaGreatDoor.D
namespace Go.Proofs.YtiidmgchadagbaaGreatDoor
open Go.RowKit D
theorem au {n:Nat} (h:n≤maxLen):(n:Int)≤9223372036854775807:=by unfold maxLen at h; omega
def Left (left bulk:Int) (B:Nat) (w:World) (e:Ending) (w':World):Prop:=Below B w w'∧∃ r:Int,e=.returned (.int .i64 r)∧(r = -1∨(0≤r∧r+bulk=left))
def Makes {α:Type} (R:Rel α) (x:α) (B:Nat) (w:World) (e:Ending) (w':World):Prop:=Below B w w'∧∃ v bs,e=.returned v∧R w' [v] x bs∧New B w' bs
def vJ {α:Type} (R:Rel α) (x:α) (B:Nat) (w:World) (e:Ending) (w':World):Prop:=Below B w w'∧∃ cs bs,e=.returned (.agg cs)∧R w' cs.toList x bs∧New B w' bs
def Yes (B:Nat) (w:World) (e:Ending) (w':World):Prop:=e=.returned (.bool true)∧Below B w w'
theorem je {α:Type} {p:α→Bool} (xs:List α) (k:Nat) (h:k < xs.length):(xs.take (k+1)).all p=((xs.take k).all p && p xs[k]):=by
 rw [List.take_succ_eq_append_getElem h,List.all_append]; simp
theorem uF {α:Type} {p:α→Bool} (xs:List α) (k:Nat) (h:k < xs.length) (hp:p xs[k]=false):xs.all p=false:=by
 rw [List.all_eq_false]; exact ⟨_,List.getElem_mem h,by simp [hp]⟩
theorem lQ {w:World} {cs:Array Value} {a:A} {bs:List Nat} (h:aU w cs.toList a bs):∃ Ad cap,cs=#[.string a.name,.slice Ad a.args.length cap]:=by
 obtain ⟨s,hcs,_,ht⟩:=h;obtain ⟨Ad,cap,rfl,_⟩:=af ht;exact ⟨Ad,cap,Array.toList_inj.1 hcs⟩
theorem eH {w:World} {c0 c1:Value} {a:A} {bs:List Nat} (h:aU w [c0,c1] a bs):eY w [c1] a.args bs:=by
 obtain ⟨s,hcs,_,ht⟩:=h;simp only [List.cons.injEq,and_true] at hcs;rw [hcs.2]; exact ht
theorem bJ {w:World} {c0 c1:Value} {a:A} {bs:List Nat} (h:aU w [c0,c1] a bs):∃ Ad cap,c0=.string a.name∧c1=.slice Ad a.args.length cap:=by
 obtain ⟨s,hcs,_,ht⟩:=h;obtain ⟨Ad,cap,rfl,_⟩:=af ht;simp only [List.cons.injEq,and_true] at hcs;exact ⟨Ad,cap,hcs⟩
end Go.Proofs.YtiidmgchadagbaaGreatDoor
namespace Go.Proofs.YtiidmgchadagbaaGreatDoor.D
structure wS {α:Type} (c:α→α→Int):Prop where
 eq:∀ a b,c a b=0 ↔ a=b
 vals:∀ a b,c a b = -1∨c a b=0∨c a b=1
 anti:∀ a b,c b a = - c a b
 trans:∀ a b d,c a b≤0→c b d≤0→c a d≤0
theorem wS.refl {α:Type} {c:α→α→Int} (h:wS c) (a:α):c a a=0:=(h.eq a a).2 rfl
theorem wS.oQ {α:Type} {c:α→α→Int} (h:wS c) {a b d:α} (h1:c a b < 0) (h2:c b d≤0):c a d < 0:=by
 have h3:=h.trans a b d (by omega) h2
 rcases Int.lt_or_eq_of_le h3 with h4 | h4
 ·exact h4
 ·have:=(h.eq a d).1 h4
  subst this;have:=h.anti a b;omega
def jV {α:Type} (c:α→α→Int):List α→List α→Int
 | [],[]=>0
 | [],_ :: _=>-1
 | _ :: _,[]=>1
 | a :: as,b :: bs=>if c a b=0 then jV c as bs else c a b
theorem nI {α:Type} {c:α→α→Int} (h:wS c):wS (jV c):=by
 refine ⟨fun l=>?_,fun l=>?_,fun l=>?_,fun l=>?_⟩
 ·induction l with
  | nil=>intro m; cases m <;> simp [jV]
  | cons a as ih=>
   intro m
   cases m with
   | nil=>simp [jV]
   | cons b bs=>
    simp only [jV];by_cases hc:c a b=0
    ·rw [if_pos hc,ih]
     have:=(h.eq a b).1 hc;subst this;simp
    ·rw [if_neg hc]
     have:a ≠ b:=fun e=>hc ((h.eq a b).2 e)
     simp [hc,this]
 ·induction l with
  | nil=>intro m; cases m <;> simp [jV]
  | cons a as ih=>
   intro m
   cases m with
   | nil=>simp [jV]
   | cons b bs=>
    simp only [jV]
    split
    ·exact ih bs
    ·exact h.vals a b
 ·induction l with
  | nil=>intro m; cases m <;> simp [jV]
  | cons a as ih=>
   intro m
   cases m with
   | nil=>simp [jV]
   | cons b bs=>
    simp only [jV];have ha:=h.anti a b;by_cases hc:c a b=0
    ·rw [if_pos hc,if_pos (by omega)]; exact ih bs
    ·rw [if_neg hc,if_neg (by omega)]; exact ha
 ·induction l with
  | nil=>
   intro m n h1 h2
   cases n with
   | nil=>simp [jV]
   | cons d ds=>simp [jV]
  | cons a as ih=>
   intro m n h1 h2
   cases m with
   | nil=>simp [jV] at h1
   | cons b bs=>
    cases n with
    | nil=>simp [jV] at h2
    | cons d ds=>
     simp only [jV] at *;by_cases hab:c a b=0
     ·have:=(h.eq a b).1 hab
      subst this;rw [if_pos hab] at h1;by_cases hbd:c a d=0
      ·rw [if_pos hbd] at h2 ⊢
       exact ih bs ds h1 h2
      ·rw [if_neg hbd] at h2 ⊢
       exact h2
     ·rw [if_neg hab] at h1
      have h2':c b d≤0:=by
       by_cases hbd:c b d=0
       ·omega
       ·rw [if_neg hbd] at h2; exact h2
      have h1':c a b < 0:=by omega
      have:=h.oQ h1' h2';rw [if_neg (by omega)];omega
def rZ (a b:UInt8):Int:=if a < b then -1 else if b < a then 1 else 0
theorem AA:wS rZ:=by
 refine ⟨fun a b=>?_,fun a b=>?_,fun a b=>?_,fun a b d=>?_⟩
 all_goals simp only [rZ,UInt8.lt_iff_toNat_lt,← UInt8.toNat_inj]
 ·split <;> try split
  all_goals simp; omega
 ·split <;> try split
  all_goals simp
 ·by_cases h1:a.toNat < b.toNat
  ·simp [h1,show ¬ b.toNat < a.toNat by omega]
  ·by_cases h2:b.toNat < a.toNat
   ·simp [h1,h2]
   ·simp [h1,h2]
 ·intro h1 h2
  have g1:¬ b.toNat < a.toNat:=by
   intro g;rw [if_neg (by omega),if_pos g] at h1;omega
  have g2:¬ d.toNat < b.toNat:=by
   intro g;rw [if_neg (by omega),if_pos g] at h2;omega
  split
  ·omega
  ·rw [if_neg (by omega)]; omega
theorem yH (l m:List UInt8):Lib.compareBytes l m=jV rZ l m:=by
 induction l generalizing m with
 | nil=>cases m <;> rfl
 | cons a as ih=>
  cases m with
  | nil=>rfl
  | cons b bs=>
   simp only [Lib.compareBytes,jV,rZ,ih]
   split
   ·simp
   ·split <;> simp
theorem Rf (l m:List UInt8):Op.bytesLess l m=true ↔ jV rZ l m < 0:=by
 induction l generalizing m with
 | nil=>cases m <;> simp [Op.bytesLess,jV]
 | cons a as ih=>
  cases m with
  | nil=>simp [Op.bytesLess,jV]
  | cons b bs=>
   simp only [Op.bytesLess,jV,Bool.or_eq_true,Bool.and_eq_true,decide_eq_true_eq,beq_iff_eq,ih];have hv:=AA.eq a b;by_cases h0:rZ a b=0
   ·have:=hv.1 h0
    subst this;rw [if_pos h0];have:¬ a < a:=by rw [UInt8.lt_iff_toNat_lt]; omega
    simp [this]
   ·rw [if_neg h0]
    have hne:a ≠ b:=fun e=>h0 (hv.2 e)
    unfold rZ;by_cases hl:a < b
    ·simp [hl]
    ·simp only [hl,hne,false_and,or_false,if_false,false_iff]
     split <;> omega
def fZ (a b:ByteArray):Int:=jV rZ a.data.toList b.data.toList
theorem iE:wS fZ:=by
 have h:=nI AA;refine ⟨fun a b=>?_,fun a b=>h.vals _ _,fun a b=>h.anti _ _,fun a b d=>h.trans _ _ _⟩;unfold fZ;rw [h.eq];exact ⟨fun e=>WideShapes.bytes_inj e,fun e=>by rw [e]⟩
theorem uG (a b:ByteArray):Op.bytesLess a.toList b.toList=decide (fZ a b < 0):=by
 rw [ByteArray.toList_eq,ByteArray.toList_eq,Bool.eq_iff_iff,Rf,decide_eq_true_eq]; rfl
theorem AB (a b:ByteArray):(a.toList == b.toList)=decide (fZ a b=0):=by
 rw [ByteArray.toList_eq,ByteArray.toList_eq,Bool.eq_iff_iff];simp only [beq_iff_eq,decide_eq_true_eq,iE.eq];exact ⟨fun e=>WideShapes.bytes_inj e,fun e=>by rw [e]⟩
theorem F5 (a b:ByteArray):Lib.compareBytes a.data.toList b.data.toList=fZ a b:=yH _ _
def lm:List T→List T→Int
 | [],[]=>0
 | [],_ :: _=>-1
 | _ :: _,[]=>1
 | a :: as,b :: bs=>if fZ a.name b.name=0 then lm as bs else fZ a.name b.name
theorem OL (l m:List T):lm l m=jV fZ (l.map (·.name)) (m.map (·.name)):=by
 induction l generalizing m with
 | nil=>cases m <;> rfl
 | cons a as ih=>cases m with
  | nil=>rfl
  | cons b bs=>simp only [lm,List.map_cons,jV,ih]
def bQ (a b:A):Int:=if fZ a.name b.name=0 then lm a.args b.args else fZ a.name b.name
def rV (a:A):List ByteArray:=a.name :: a.args.map (·.name)
theorem jB (a b:A):bQ a b=jV fZ (rV a) (rV b):=by
 unfold bQ rV;simp only [jV,OL]
end Go.Proofs.YtiidmgchadagbaaGreatDoor.D
namespace Go.Proofs.YtiidmgchadagbaaGreatDoor
open Go.RowKit D
namespace D
section
def kC (ts:List T):Bool:=ts.any (·.var)
def dM (a:A):Bool:=aZ a && !kC a.args
def ig:List A→Bool
 | []=>true
 | [_]=>true
 | a :: b :: r=>decide (bQ a b < 0) && ig (b :: r)
theorem wU (xs:List A):ig xs=true ↔ ∀ i (h:i+1 < xs.length),bQ xs[i] xs[i+1] < 0:=by
 induction xs with
 | nil=>simp [ig]
 | cons a r ih=>
  cases r with
  | nil=>simp [ig]
  | cons b r=>
   simp only [ig,Bool.and_eq_true,decide_eq_true_eq,ih];constructor
   ·rintro ⟨h1,h2⟩ i hi
    cases i with
    | zero=>exact h1
    | succ i=>exact h2 i (by simp at hi ⊢; omega)
   ·intro h
    exact ⟨h 0 (by simp),fun i hi=>h (i+1) (by simp at hi ⊢; omega)⟩
theorem UG (xs:List A) (k:Nat) (h:k+1 < xs.length) (hc:¬ bQ xs[k] xs[k+1] < 0):ig xs=false:=by
 rw [Bool.eq_false_iff];intro ha;exact hc ((wU xs).1 ha k h)
def bH (xs:List A):Bool:=decide (xs.length≤300) && xs.all dM && ig xs
theorem AX (ts:List T) (k:Nat) (h:k < ts.length) (hv:ts[k].var=true):kC ts=true:=by
 unfold kC; rw [List.any_eq_true]; exact ⟨_,List.getElem_mem h,hv⟩
theorem zl (ts:List T) (k:Nat) (h:k < ts.length):kC (ts.take (k+1))=(kC (ts.take k) || ts[k].var):=by
 unfold kC; rw [List.take_succ_eq_append_getElem h,List.any_append]; simp
end
section
def okB (xs:List A):Bool:=xs.all dM && ig xs
def OM (xs:List A) (k:Nat):Prop:=∀ j (h:j < xs.length),j < k→dM xs[j]=true∧(∀ h':0 < j,bQ (xs[j - 1]'(by omega)) xs[j] < 0)
def Io (xs:List A) (k:Nat):Prop:=∀ j (h:j < xs.length),j < k→dM xs[j]=true
def AY (xs:List A) (k:Nat):Prop:=∀ j (h:j < xs.length),j < k→∀ h':0 < j,bQ (xs[j - 1]'(by omega)) xs[j] < 0
theorem OO (xs:List A):OM xs 0:=fun _ _ h=>absurd h (Nat.not_lt_zero _)
theorem Lj (xs:List A):Io xs 0:=fun _ _ h=>absurd h (Nat.not_lt_zero _)
theorem OQ (xs:List A):AY xs 1:=fun j _ h h'=>by omega
theorem Rh {xs:List A} (h0:0 < xs.length) (h:dM xs[0]=true):OM xs 1:=fun j hj hk=>by
 have:j=0:=by omega
 subst this;exact ⟨h,fun h'=>absurd h' (Nat.lt_irrefl _)⟩
theorem OT {xs:List A} {k:Nat} (H:OM xs (k+1)) (hk:k+1 < xs.length) (h:dM xs[k+1]=true) (hc:bQ xs[k] xs[k+1] < 0):OM xs (k+1+1):=fun j hj hjk=>by
 by_cases e:j=k+1
 ·subst e; exact ⟨h,fun _=>hc⟩
 ·exact H j hj (by omega)
theorem Ll {xs:List A} {k:Nat} (H:Io xs k) (hk:k < xs.length) (h:dM xs[k]=true):Io xs (k+1):=fun j hj hjk=>by
 by_cases e:j=k
 ·subst e; exact h
 ·exact H j hj (by omega)
theorem Ls {xs:List A} {k:Nat} (H:AY xs (k+1)) (hk:k+1 < xs.length) (hc:bQ xs[k] xs[k+1] < 0):AY xs (k+1+1):=fun j hj hjk=>by
 by_cases e:j=k+1
 ·subst e; exact fun _=>hc
 ·exact H j hj (by omega)
theorem F6 (xs:List A):okB xs=true ↔ Io xs xs.length∧AY xs xs.length:=by
 unfold okB;rw [Bool.and_eq_true,List.all_eq_true,wU];constructor
 ·rintro ⟨h1,h2⟩
  refine ⟨fun j hj _=>h1 _ (List.getElem_mem hj),fun j hj _ h0=>?_⟩;obtain ⟨i,rfl⟩:∃ i,j=i+1:=⟨j - 1,by omega⟩;exact h2 i hj
 ·rintro ⟨h1,h2⟩
  refine ⟨fun x hx=>?_,fun i hi=>h2 (i+1) hi hi (by omega)⟩;obtain ⟨j,hj,rfl⟩:=List.mem_iff_getElem.1 hx;exact h1 j hj hj
theorem UH {xs:List A} (H:OM xs xs.length):okB xs=true:=(F6 xs).2 ⟨fun j hj hk=>(H j hj hk).1,fun j hj hk=>(H j hj hk).2⟩
theorem Oe {xs:List A} {k:Nat} (hk:k < xs.length) (h:dM xs[k]=false):okB xs=false:=by
 rw [Bool.eq_false_iff]; intro ha
 have:=((F6 xs).1 ha).1 k hk hk;rw [h] at this; cases this
theorem Ri {xs:List A} {k:Nat} (hk:k+1 < xs.length) (h:¬ bQ xs[k] xs[k+1] < 0):okB xs=false:=by
 rw [Bool.eq_false_iff]; intro ha
 exact h (((F6 xs).1 ha).2 (k+1) hk hk (by omega))
theorem UI {xs:List A} (H:AY xs xs.length):ig xs=true:=(wU xs).2 fun i hi=>H (i+1) hi hi (by omega)
theorem qG (xs:List A):bH xs=(okB xs && decide (xs.length≤300)):=by
 unfold bH okB; cases decide (xs.length≤300) <;> simp
variable {w:World} {Ad:Option Addr} {len cap:Nat} {bs:List Nat} {k:Nat}
theorem Eo {xs:List A} {j:Nat} (h:aI w [.slice Ad len cap] xs bs) (hj:j < xs.length) (hk:k < xs.length):
  ∃ b o Ae ce bk Af cf bm,Ad=some ⟨b,o,none⟩∧
   w.cell? ⟨b,o+j * 2,none⟩=some (.string xs[j].name)∧w.cell? ⟨b,o+j * 2+1,none⟩=some (.slice Ae xs[j].args.length ce)∧aU w [.string xs[j].name,.slice Ae xs[j].args.length ce] xs[j] bk∧
   w.cell? ⟨b,o+k * 2,none⟩=some (.string xs[k].name)∧w.cell? ⟨b,o+k * 2+1,none⟩=some (.slice Af xs[k].args.length cf)∧aU w [.string xs[k].name,.slice Af xs[k].args.length cf] xs[k] bm:=by
 obtain ⟨b,o,Ae,ce,bk,rfl,_,c0,c1,hel,_⟩:=dG h hj;obtain ⟨b',o',Af,cf,bm,e,_,d0,d1,hel',_⟩:=dG h hk;cases e;exact ⟨b,o,Ae,ce,bk,Af,cf,bm,rfl,c0,c1,hel,d0,d1,hel'⟩
end
section
theorem iK {a b d:A} (h1:bQ a b < 0) (h2:bQ b d≤0):bQ a d < 0:=by
 rw [jB] at *;exact (nI iE).oQ h1 h2
theorem F7 {xs:List A} (hs:ig xs=true) {i j:Nat} (hj:j < xs.length) (hij:i < j):bQ (xs[i]'(by omega)) xs[j] < 0:=by
 induction j with
 | zero=>omega
 | succ j ih=>
  have h1:=(wU xs).1 hs j hj;by_cases e:i=j
  ·subst e; exact h1
  ·exact iK (ih (by omega) (by omega)) (by omega)
def Ip (a x:A):Bool:=decide (bQ x a < 0)
def pl (xs:List A) (a:A):Nat:=xs.countP (Ip a)
def hasB (xs:List A) (a:A):Bool:=xs.any (fun x=>decide (bQ x a=0))
def LC (xs:List A) (a:A) (k:Nat):Prop:=∀ j (h:j < xs.length),j < k→bQ xs[j] a < 0
theorem OU (xs:List A) (a:A):LC xs a 0:=fun _ _ h=>absurd h (Nat.not_lt_zero _)
theorem OV {xs:List A} {a:A} {k:Nat} (H:LC xs a k) (hk:k < xs.length) (h:bQ xs[k] a < 0):LC xs a (k+1):=fun j hj hjk=>by
 by_cases e:j=k
 ·subst e; exact h
 ·exact H j hj (by omega)
theorem Iq {xs:List A} {a:A} {k:Nat} (hs:ig xs=true) (hk:k < xs.length) (h:¬ bQ xs[k] a < 0) {j:Nat} (hj:j < xs.length) (hkj:k≤j):¬ bQ xs[j] a < 0:=fun hc=>by
 by_cases e:k=j
 ·subst e; exact h hc
 ·exact h (iK (F7 hs hj (by omega)) (by omega))
theorem Ir {xs:List A} {a:A} {k:Nat} (hs:ig xs=true) (hk:k≤xs.length) (h1:LC xs a k) (h2:∀ h:k < xs.length,¬ bQ xs[k] a < 0):k=pl xs a:=by
 unfold pl
 conv=>rhs; rw [← List.take_append_drop k xs]
 rw [List.countP_append,List.countP_eq_length.2,List.countP_eq_zero.2]
 ·simp; omega
 ·intro y hy
  obtain ⟨j,hj,rfl⟩:=List.mem_iff_getElem.1 hy;rw [List.length_drop] at hj;rw [List.getElem_drop];have:=Iq hs (by omega) (h2 (by omega)) (j:=k+j) (by omega) (by omega);simp [Ip]; omega
 ·intro y hy
  obtain ⟨j,hj,rfl⟩:=List.mem_iff_getElem.1 hy;rw [List.length_take] at hj;rw [List.getElem_take];simp only [Ip,decide_eq_true_eq];exact h1 j (by omega) (by omega)
theorem VN {xs:List A} {a:A} {k:Nat} (hs:ig xs=true) (hk:k < xs.length) (h1:LC xs a k) (h2:¬ bQ xs[k] a < 0):hasB xs a=decide (bQ xs[k] a=0):=by
 by_cases hc:bQ xs[k] a=0
 ·rw [decide_eq_true hc]; unfold hasB; rw [List.any_eq_true]; exact ⟨_,List.getElem_mem hk,by simpa using hc⟩
 ·rw [decide_eq_false hc]; unfold hasB; rw [List.any_eq_false]
  intro y hy hcy;obtain ⟨j,hj,rfl⟩:=List.mem_iff_getElem.1 hy;simp only [decide_eq_true_eq] at hcy
  rcases Nat.lt_trichotomy j k with h | h | h
  ·have:=h1 j hj h; omega
  ·subst h; exact hc hcy
  ·exact h2 (iK (F7 hs hj h) (by omega))
theorem UJ {xs:List A} {a:A} (h1:LC xs a xs.length):hasB xs a=false:=by
 unfold hasB; rw [List.any_eq_false]
 intro y hy hcy;obtain ⟨j,hj,rfl⟩:=List.mem_iff_getElem.1 hy;simp only [decide_eq_true_eq] at hcy;have:=h1 j hj hj; omega
end
section
theorem fE {xs:List A} (h:bH xs=true):ig xs=true:=by
 unfold bH at h; simp only [Bool.and_eq_true] at h; exact h.2
theorem jM {xs:List A} (h:bH xs=true):xs.length≤300:=by
 unfold bH at h; simp only [Bool.and_eq_true,decide_eq_true_eq] at h; exact h.1.1
theorem nJ {xs:List A} (h:bH xs=true):∀ x ∈ xs,dM x=true:=by
 unfold bH at h; simp only [Bool.and_eq_true,List.all_eq_true] at h; exact h.1.2
end
section
def meets (xs ys:List A):Bool:=xs.any (hasB ys)
def jC (c:Ch):Bool:=bH c.comes && bH c.goes && !meets c.comes c.goes
theorem OW {xs ys:List A} {k:Nat} (hk:k < xs.length) (h:hasB ys xs[k]=true):meets xs ys=true:=by
 unfold meets; rw [List.any_eq_true]; exact ⟨_,List.getElem_mem hk,h⟩
theorem LD {xs ys:List A} {k:Nat} (hk:k < xs.length):meets (xs.take (k+1)) ys=(meets (xs.take k) ys || hasB ys xs[k]):=by
 unfold meets; rw [List.take_succ_eq_append_getElem hk,List.any_append]; simp
end
end D
end Go.Proofs.YtiidmgchadagbaaGreatDoor
namespace Go.Proofs.YtiidmgchadagbaaGreatDoor
open Go.RowKit D
namespace D
def bP:List A→List A→List (A × Nat)
 | [],[]=>[]
 | [],y :: ys=>(y,1) :: bP [] ys
 | x :: xs,[]=>(x,0) :: bP xs []
 | x :: xs,y :: ys=>if bQ x y < 0 then (x,0) :: bP xs (y :: ys) else if 0 < bQ x y then (y,1) :: bP (x :: xs) ys else (x,2) :: bP xs ys
termination_by xs ys=>xs.length+ys.length
theorem lS {x y:A} {xs ys:List A} (h:bQ x y < 0):bP (x :: xs) (y :: ys)=(x,0) :: bP xs (y :: ys):=by rw [bP,if_pos h]
theorem lT {x y:A} {xs ys:List A} (h:0 < bQ x y):bP (x :: xs) (y :: ys)=(y,1) :: bP (x :: xs) ys:=by rw [bP,if_neg (by omega),if_pos h]
theorem lU {x y:A} {xs ys:List A} (h1:¬ bQ x y < 0) (h2:¬ 0 < bQ x y):bP (x :: xs) (y :: ys)=(x,2) :: bP xs ys:=by rw [bP,if_neg h1,if_neg h2]
theorem kR (a b:A):bQ b a = - bQ a b:=by rw [jB,jB]; exact (nI iE).anti _ _
theorem fK {x:A} {xs:List A} (h:ig (x :: xs)=true):∀ y ∈ xs,bQ x y < 0:=by
 intro y hy;obtain ⟨j,hj,rfl⟩:=List.mem_iff_getElem.1 hy;exact F7 h (i:=0) (j:=j+1) (by simp; omega) (by omega)
theorem eX {x:A} {xs:List A} (h:ig (x :: xs)=true):ig xs=true:=by
 cases xs with
 | nil=>rfl
 | cons y ys=>simp only [ig,Bool.and_eq_true] at h; exact h.2
theorem wV {ys:List A} {x:A} (h:∀ y ∈ ys,bQ x y < 0):hasB ys x=false:=by
 unfold hasB; rw [List.any_eq_false]
 intro y hy hc;have:=h y hy;simp only [decide_eq_true_eq] at hc;rw [kR y x] at this;omega
theorem Ep (xs:List A):meets xs []=false:=by
 unfold meets; rw [List.any_eq_false]; intro x _; simp [hasB]
theorem Iu:∀ (n:Nat) (xs ys:List A),xs.length+ys.length≤n→ig xs=true→ig ys=true→(bP xs ys).any (fun p=>p.2 == 2)=meets xs ys:=by
 intro n
 induction n with
 | zero=>
  intro xs ys hn _ _;obtain rfl:xs = []:=List.length_eq_zero_iff.1 (by omega);obtain rfl:ys = []:=List.length_eq_zero_iff.1 (by omega);rw [bP]; rfl
 | succ n ih=>
  intro xs ys hn hx hy
  match xs,ys with
  | [],[]=>rw [bP]; rfl
  | [],y :: ys=>rw [bP,List.any_cons,ih [] ys (by simp at hn ⊢; omega) rfl (eX hy)]; rfl
  | x :: xs,[]=>rw [bP,List.any_cons,ih xs [] (by simp at hn ⊢; omega) (eX hx) rfl,Ep,Ep]; rfl
  | x :: xs,y :: ys=>
   by_cases h1:bQ x y < 0
   ·rw [lS h1,List.any_cons,ih xs (y :: ys) (by simp at hn ⊢; omega) (eX hx) hy]
    have:hasB (y :: ys) x=false:=wV (fun z hz=>by
     rcases List.mem_cons.1 hz with rfl | hz
     ·exact h1
     ·exact iK h1 (by have:=fK hy z hz; omega))
    simp [meets,this]
   ·by_cases h2:0 < bQ x y
    ·rw [lT h2,List.any_cons,ih (x :: xs) ys (by simp at hn ⊢; omega) hx (eX hy)]
     have hyx:bQ y x < 0:=by rw [kR x y]; omega
     have hz:∀ z ∈ x :: xs,hasB (y :: ys) z=hasB ys z:=fun z hz=>by
      have:bQ y z < 0:=by
       rcases List.mem_cons.1 hz with rfl | hz
       ·exact hyx
       ·exact iK hyx (by have:=fK hx z hz; omega)
      have h0:decide (bQ y z=0)=false:=decide_eq_false (by omega);simp [hasB,h0]
     have:(x :: xs).any (hasB (y :: ys))=(x :: xs).any (hasB ys):=by
      rw [Bool.eq_iff_iff]; simp only [List.any_eq_true]
      exact ⟨fun ⟨z,hz1,hz2⟩=>⟨z,hz1,by rw [← hz z hz1]; exact hz2⟩,fun ⟨z,hz1,hz2⟩=>⟨z,hz1,by rw [hz z hz1]; exact hz2⟩⟩
     unfold meets;rw [this]; simp
    ·rw [lU h1 h2,List.any_cons]
     have:decide (bQ y x=0)=true:=decide_eq_true (by rw [kR x y]; omega);simp [meets,hasB,this]
end D
end Go.Proofs.YtiidmgchadagbaaGreatDoor
namespace Go.Proofs.YtiidmgchadagbaaGreatDoor
open Go.RowKit D
namespace D
theorem F8:wS (jV fZ):=nI iE
theorem OX (a b:A):bQ a b = -1∨bQ a b=0∨bQ a b=1:=by rw [jB]; exact F8.vals _ _
theorem su (a b:A):bQ a b=0 ↔ rV a=rV b:=by rw [jB]; exact F8.eq _ _
theorem uH (a:A):bQ a a=0:=(su a a).2 rfl
theorem nC {a b:A} (h:bQ a b=0) (x:A):bQ a x=bQ b x:=by
 rw [jB,jB,(su a b).1 h]
theorem lV {a b:A} (h:bQ a b=0) (x:A):bQ x a=bQ x b:=by
 rw [jB,jB,(su a b).1 h]
theorem vK {xs:List A} {a b:A} (h:bQ a b=0):hasB xs a=hasB xs b:=by
 unfold hasB; congr 1; funext x; rw [lV h]
theorem F9 {ts:List T} (h:kC ts=false):∀ t ∈ ts,t.var=false:=by
 intro t ht;have:=List.any_eq_false.1 h t ht;simpa using this
theorem yI:∀ {ts us:List T},(∀ t ∈ ts,t.var=false)→(∀ t ∈ us,t.var=false)→ts.map (·.name)=us.map (·.name)→ts=us
 | [],[],_,_,_=>rfl
 | [],_ :: _,_,_,h=>by simp at h
 | _ :: _,[],_,_,h=>by simp at h
 | ⟨v,n⟩ :: ts,⟨v',n'⟩ :: us,h1,h2,h=>by
  simp only [List.map_cons,List.cons.injEq] at h;have e1:=h1 _ (List.mem_cons_self ..);have e2:=h2 _ (List.mem_cons_self ..);dsimp only at e1 e2;obtain ⟨rfl,h⟩:=h;rw [e1,e2,yI (fun t ht=>h1 t (List.mem_cons_of_mem _ ht)) (fun t ht=>h2 t (List.mem_cons_of_mem _ ht)) h]
theorem Es {a:A} (h:dM a=true):∀ t ∈ a.args,t.var=false:=by
 unfold dM at h;simp only [Bool.and_eq_true,Bool.not_eq_true'] at h;exact F9 h.2
theorem UK {a b:A} (ha:dM a=true) (hb:dM b=true) (h:bQ a b=0):a=b:=by
 have:=(su a b).1 h;unfold rV at this;simp only [List.cons.injEq] at this;obtain ⟨n,ts⟩:=a;obtain ⟨m,us⟩:=b;dsimp only at *;obtain ⟨rfl,h2⟩:=this;have e:ts=us:=yI (Es ha) (Es hb) h2;rw [e]
theorem mF {xs:List A} {a:A} (h:a ∈ xs):hasB xs a=true:=by
 unfold hasB; rw [List.any_eq_true]; exact ⟨a,h,by simp [uH]⟩
theorem qc {xs:List A} {a:A}:hasB xs a=true ↔ ∃ x ∈ xs,bQ x a=0:=by
 unfold hasB; simp [List.any_eq_true]
theorem fH (x:A) (xs:List A) (a:A):hasB (x :: xs) a=(decide (bQ x a=0) || hasB xs a):=by simp [hasB]
theorem zn (xs ys:List A) (a:A):hasB (xs ++ ys) a=(hasB xs a || hasB ys a):=by simp [hasB]
theorem lq {x:A} {xs:List A} (h:∀ y ∈ xs,bQ x y < 0) (hs:ig xs=true):ig (x :: xs)=true:=by
 cases xs with
 | nil=>rfl
 | cons y ys=>simp only [ig,Bool.and_eq_true,decide_eq_true_eq]; exact ⟨h y (List.mem_cons_self ..),hs⟩
theorem AZ:∀ {xs ys:List A},ig xs=true→ig ys=true→(∀ x ∈ xs,∀ y ∈ ys,bQ x y < 0)→ig (xs ++ ys)=true
 | [],ys,_,h,_=>h
 | x :: xs,ys,h1,h2,h=>by
  refine lq (fun z hz=>?_) (AZ (eX h1) h2 fun z hz y hy=>h z (List.mem_cons_of_mem _ hz) y hy)
  rcases List.mem_append.1 hz with hz | hz
  ·exact fK h1 z hz
  ·exact h x (List.mem_cons_self ..) z hz
theorem vM {p:A→Bool}:∀ {xs:List A},ig xs=true→ig (xs.filter p)=true
 | [],_=>rfl
 | x :: xs,h=>by
  rw [List.filter_cons]
  split
  ·exact lq (fun y hy=>fK h y (List.mem_filter.1 hy).1) (vM (eX h))
  ·exact vM (eX h)
theorem Og {xs ys:List A} (h:ig ys=true) (hs:List.Sublist xs ys):ig xs=true:=by
 induction hs with
 | slnil=>rfl
 | cons a _ ih=>exact ih (eX h)
 | cons_cons a hs ih=>exact lq (fun y hy=>fK h y (hs.subset hy)) (ih (eX h))
theorem Gf:∀ {xs ys:List A},ig xs=true→ig ys=true→(∀ x ∈ xs,dM x=true)→(∀ x ∈ ys,dM x=true)→(∀ a,hasB xs a=hasB ys a)→xs=ys
 | [],[],_,_,_,_,_=>rfl
 | [],y :: ys,_,_,_,_,h=>by have:=h y; rw [mF (List.mem_cons_self ..)] at this; simp [hasB] at this
 | x :: xs,[],_,_,_,_,h=>by have:=h x; rw [mF (List.mem_cons_self ..)] at this; simp [hasB] at this
 | x :: xs,y :: ys,hx,hy,fx,fy,h=>by
  have h1:bQ y x≤0:=by
   obtain ⟨z,hz,hc⟩:=qc.1 ((h x).symm.trans (mF (List.mem_cons_self ..)))
   rcases List.mem_cons.1 hz with rfl | hz
   ·omega
   ·have:=fK hy z hz
    rw [lV hc] at this; omega
  have h2:bQ x y≤0:=by
   obtain ⟨z,hz,hc⟩:=qc.1 ((h y).trans (mF (List.mem_cons_self ..)))
   rcases List.mem_cons.1 hz with rfl | hz
   ·omega
   ·have:=fK hx z hz
    rw [lV hc] at this; omega
  have h3:=kR x y;obtain rfl:=UK (fx x (List.mem_cons_self ..)) (fy y (List.mem_cons_self ..)) (by omega);rw [Gf (eX hx) (eX hy) (fun z hz=>fx z (List.mem_cons_of_mem _ hz)) (fun z hz=>fy z (List.mem_cons_of_mem _ hz)) fun a=>?_];have:=h a;rw [fH,fH] at this;by_cases hc:bQ x a=0
  ·rw [← vK hc,← vK hc,wV (fK hx),wV (fK hy)]
  ·simpa [hc] using this
def fA (xs:List A) (a:A):List A:=if hasB xs a then xs else xs.take (pl xs a) ++ a :: xs.drop (pl xs a)
def dW (xs ys:List A):List A:=xs.filter fun x=>!hasB ys x
theorem qf:∀ {xs:List A} (hs:ig xs=true) (a:A),(∀ x ∈ xs.take (pl xs a),bQ x a < 0)∧(∀ x ∈ xs.drop (pl xs a),¬ bQ x a < 0)∧pl xs a≤xs.length
 | [],_,a=>by simp [pl]
 | x :: xs,hs,a=>by
  obtain ⟨h1,h2,h3⟩:=qf (eX hs) a;by_cases hc:bQ x a < 0
  ·have:pl (x :: xs) a=pl xs a+1:=by unfold pl; rw [List.countP_cons_of_pos (by simpa [Ip] using hc)]
   rw [this];refine ⟨fun z hz=>?_,fun z hz=>h2 z (by simpa using hz),by simpa using h3⟩;rw [List.take_succ_cons] at hz
   rcases List.mem_cons.1 hz with rfl | hz
   ·exact hc
   ·exact h1 z hz
  ·have h0:∀ z ∈ x :: xs,¬ bQ z a < 0:=by
    intro z hz hza
    rcases List.mem_cons.1 hz with rfl | hz
    ·exact hc hza
    ·exact hc (iK (fK hs z hz) (by omega))
   have:pl (x :: xs) a=0:=by unfold pl; rw [List.countP_eq_zero]; intro z hz; have:=h0 z hz; simp [Ip]; omega
   rw [this];exact ⟨fun z hz=>by simp at hz,fun z hz=>h0 z (by simpa using hz),by simp⟩
theorem LG (xs:List A) (n:Nat) (b:A):hasB xs b=(hasB (xs.take n) b || hasB (xs.drop n) b):=by
 conv=>lhs; rw [← List.take_append_drop n xs]
 exact zn _ _ _
theorem Iw (xs:List A) (a b:A):hasB (fA xs a) b=(hasB xs b || decide (bQ a b=0)):=by
 unfold fA
 split
 ·rename_i h
  by_cases hc:bQ a b=0
  ·rw [← vK hc,h]; rfl
  ·simp [hc]
 ·rw [zn,fH,LG xs (pl xs a) b]
  cases hasB (xs.take (pl xs a)) b <;> cases hasB (xs.drop (pl xs a)) b <;> simp
theorem AL {xs:List A} (hs:ig xs=true) (a:A):ig (fA xs a)=true:=by
 unfold fA
 split
 ·exact hs
 ·rename_i h
  obtain ⟨h1,h2,_⟩:=qf hs a
  have h3:∀ x ∈ xs.drop (pl xs a),bQ a x < 0:=by
   intro x hx;have g1:=h2 x hx;have g2:bQ x a ≠ 0:=fun e=>h (qc.2 ⟨x,List.mem_of_mem_drop hx,e⟩)
   have:=kR x a;have:=OX x a;omega
  refine AZ (Og hs (List.take_sublist _ _)) (lq h3 (Og hs (List.drop_sublist _ _))) fun x hx y hy=>?_
  rcases List.mem_cons.1 hy with rfl | hy
  ·exact h1 x hx
  ·exact iK (h1 x hx) (by have:=h3 y hy; omega)
theorem Gg {xs:List A} {a x:A} (h:x ∈ fA xs a):x ∈ xs∨x=a:=by
 unfold fA at h
 split at h
 ·exact .inl h
 ·rcases List.mem_append.1 h with h | h
  ·exact .inl (List.mem_of_mem_take h)
  ·rcases List.mem_cons.1 h with rfl | h
   ·exact .inr rfl
   ·exact .inl (List.mem_of_mem_drop h)
theorem LH {xs:List A} {a:A} (h:hasB xs a=false):(fA xs a).length=xs.length+1:=by
 unfold fA;rw [if_neg (by simp [h]),List.length_append,List.length_cons];have:=congrArg List.length (List.take_append_drop (pl xs a) xs);rw [List.length_append] at this;omega
theorem DT (xs:List A) (a:A):(fA xs a).length≤xs.length+1:=by
 cases h:hasB xs a
 ·rw [LH h]; omega
 ·unfold fA; rw [if_pos h]; omega
theorem wW {xs ys:List A} {x:A} (h:x ∈ dW xs ys):x ∈ xs:=(List.mem_filter.1 h).1
theorem Iy {xs ys:List A} (h:ig xs=true):ig (dW xs ys)=true:=vM h
def dw (xs ys:List A):List A:=(bP xs ys).map (·.1)
def fQ (xs ys:List A):List A:=((bP xs ys).filter (fun p=>p.2 == 0)).map (·.1)
theorem OY:∀ (n:Nat) (xs ys:List A),xs.length+ys.length≤n→∀ p ∈ bP xs ys,p.1 ∈ xs∨p.1 ∈ ys:=by
 intro n
 induction n with
 | zero=>
  intro xs ys hn;obtain rfl:xs = []:=List.length_eq_zero_iff.1 (by omega);obtain rfl:ys = []:=List.length_eq_zero_iff.1 (by omega);rw [bP]; intro p hp; simp at hp
 | succ n ih=>
  intro xs ys hn p
  match xs,ys with
  | [],[]=>rw [bP]; intro hp; simp at hp
  | [],y :: ys=>
   rw [bP]; intro hp
   rcases List.mem_cons.1 hp with rfl | hp
   ·exact .inr (List.mem_cons_self ..)
   ·exact (ih [] ys (by simp at hn ⊢; omega) p hp).imp id (List.mem_cons_of_mem _)
  | x :: xs,[]=>
   rw [bP]; intro hp
   rcases List.mem_cons.1 hp with rfl | hp
   ·exact .inl (List.mem_cons_self ..)
   ·exact (ih xs [] (by simp at hn ⊢; omega) p hp).imp (List.mem_cons_of_mem _) id
  | x :: xs,y :: ys=>
   by_cases h1:bQ x y < 0
   ·rw [lS h1]; intro hp
    rcases List.mem_cons.1 hp with rfl | hp
    ·exact .inl (List.mem_cons_self ..)
    ·exact (ih xs (y :: ys) (by simp at hn ⊢; omega) p hp).imp (List.mem_cons_of_mem _) id
   ·by_cases h2:0 < bQ x y
    ·rw [lT h2]; intro hp
     rcases List.mem_cons.1 hp with rfl | hp
     ·exact .inr (List.mem_cons_self ..)
     ·exact (ih (x :: xs) ys (by simp at hn ⊢; omega) p hp).imp id (List.mem_cons_of_mem _)
    ·rw [lU h1 h2]; intro hp
     rcases List.mem_cons.1 hp with rfl | hp
     ·exact .inl (List.mem_cons_self ..)
     ·exact (ih xs ys (by simp at hn ⊢; omega) p hp).imp (List.mem_cons_of_mem _) (List.mem_cons_of_mem _)
theorem nS {xs ys:List A} {x:A} (h:x ∈ dw xs ys):x ∈ xs∨x ∈ ys:=by
 obtain ⟨p,hp,rfl⟩:=List.mem_map.1 h;exact OY _ xs ys (Nat.le_refl _) p hp
theorem qH:∀ (n:Nat) (xs ys:List A),xs.length+ys.length≤n→(bP xs ys).length≤xs.length+ys.length:=by
 intro n
 induction n with
 | zero=>
  intro xs ys hn;obtain rfl:xs = []:=List.length_eq_zero_iff.1 (by omega);obtain rfl:ys = []:=List.length_eq_zero_iff.1 (by omega);rw [bP]; simp
 | succ n ih=>
  intro xs ys hn
  match xs,ys with
  | [],[]=>rw [bP]; simp
  | [],y :: ys=>rw [bP]; have:=ih [] ys (by simp at hn ⊢; omega); simp at this ⊢; omega
  | x :: xs,[]=>rw [bP]; have:=ih xs [] (by simp at hn ⊢; omega); simp at this ⊢; omega
  | x :: xs,y :: ys=>
   by_cases h1:bQ x y < 0
   ·rw [lS h1]; have:=ih xs (y :: ys) (by simp at hn ⊢; omega); simp at this ⊢; omega
   ·by_cases h2:0 < bQ x y
    ·rw [lT h2]; have:=ih (x :: xs) ys (by simp at hn ⊢; omega); simp at this ⊢; omega
    ·rw [lU h1 h2]; have:=ih xs ys (by simp at hn ⊢; omega); simp at this ⊢; omega
theorem OZ:∀ (n:Nat) (xs ys:List A),xs.length+ys.length≤n→ig xs=true→ig ys=true→ig (dw xs ys)=true:=by
 intro n
 induction n with
 | zero=>
  intro xs ys hn _ _;obtain rfl:xs = []:=List.length_eq_zero_iff.1 (by omega);obtain rfl:ys = []:=List.length_eq_zero_iff.1 (by omega);unfold dw; rw [bP]; rfl
 | succ n ih=>
  intro xs ys hn hx hy
  match xs,ys with
  | [],[]=>unfold dw; rw [bP]; rfl
  | [],y :: ys=>
   have h:=ih [] ys (by simp at hn ⊢; omega) rfl (eX hy);have e:dw [] (y :: ys)=y :: dw [] ys:=by unfold dw; rw [bP]; rfl
   rw [e];exact lq (fun z hz=>(nS hz).elim (fun h=>by simp at h) (fK hy z)) h
  | x :: xs,[]=>
   have h:=ih xs [] (by simp at hn ⊢; omega) (eX hx) rfl;have e:dw (x :: xs) []=x :: dw xs []:=by unfold dw; rw [bP]; rfl
   rw [e];exact lq (fun z hz=>(nS hz).elim (fK hx z) (fun h=>by simp at h)) h
  | x :: xs,y :: ys=>
   by_cases h1:bQ x y < 0
   ·have h:=ih xs (y :: ys) (by simp at hn ⊢; omega) (eX hx) hy
    have e:dw (x :: xs) (y :: ys)=x :: dw xs (y :: ys):=by unfold dw; rw [lS h1]; rfl
    rw [e];refine lq (fun z hz=>(nS hz).elim (fK hx z) fun hz=>?_) h
    rcases List.mem_cons.1 hz with rfl | hz
    ·exact h1
    ·exact iK h1 (by have:=fK hy z hz; omega)
   ·by_cases h2:0 < bQ x y
    ·have h:=ih (x :: xs) ys (by simp at hn ⊢; omega) hx (eX hy)
     have hyx:bQ y x < 0:=by rw [kR x y]; omega
     have e:dw (x :: xs) (y :: ys)=y :: dw (x :: xs) ys:=by unfold dw; rw [lT h2]; rfl
     rw [e];refine lq (fun z hz=>(nS hz).elim (fun hz=>?_) (fK hy z)) h
     rcases List.mem_cons.1 hz with rfl | hz
     ·exact hyx
     ·exact iK hyx (by have:=fK hx z hz; omega)
    ·have h:=ih xs ys (by simp at hn ⊢; omega) (eX hx) (eX hy)
     have hxy:bQ x y=0:=by omega
     have e:dw (x :: xs) (y :: ys)=x :: dw xs ys:=by unfold dw; rw [lU h1 h2]; rfl
     rw [e];exact lq (fun z hz=>(nS hz).elim (fK hx z) fun hz=>by rw [nC hxy]; exact fK hy z hz) h
theorem O0 {xs ys:List A} (hx:ig xs=true) (hy:ig ys=true):ig (dw xs ys)=true:=OZ _ xs ys (Nat.le_refl _) hx hy
theorem O1:∀ (n:Nat) (xs ys:List A),xs.length+ys.length≤n→∀ a,hasB (dw xs ys) a=(hasB xs a || hasB ys a):=by
 intro n
 induction n with
 | zero=>
  intro xs ys hn;obtain rfl:xs = []:=List.length_eq_zero_iff.1 (by omega);obtain rfl:ys = []:=List.length_eq_zero_iff.1 (by omega);unfold dw; rw [bP]; intro a; rfl
 | succ n ih=>
  intro xs ys hn a
  match xs,ys with
  | [],[]=>unfold dw; rw [bP]; rfl
  | [],y :: ys=>
   have h:=ih [] ys (by simp at hn ⊢; omega) a;have e:dw [] (y :: ys)=y :: dw [] ys:=by unfold dw; rw [bP]; rfl
   rw [e,fH,fH,h]; cases decide (bQ y a=0) <;> simp [hasB]
  | x :: xs,[]=>
   have h:=ih xs [] (by simp at hn ⊢; omega) a;have e:dw (x :: xs) []=x :: dw xs []:=by unfold dw; rw [bP]; rfl
   rw [e,fH,fH,h,Bool.or_assoc]
  | x :: xs,y :: ys=>
   by_cases h1:bQ x y < 0
   ·have h:=ih xs (y :: ys) (by simp at hn ⊢; omega) a
    have e:dw (x :: xs) (y :: ys)=x :: dw xs (y :: ys):=by unfold dw; rw [lS h1]; rfl
    rw [e,fH,fH,h,Bool.or_assoc]
   ·by_cases h2:0 < bQ x y
    ·have h:=ih (x :: xs) ys (by simp at hn ⊢; omega) a
     have e:dw (x :: xs) (y :: ys)=y :: dw (x :: xs) ys:=by unfold dw; rw [lT h2]; rfl
     rw [e,fH,h,fH y ys]
     cases decide (bQ y a=0) <;> cases hasB (x :: xs) a <;> rfl
    ·have h:=ih xs ys (by simp at hn ⊢; omega) a
     have hxy:bQ x y=0:=by omega
     have e:dw (x :: xs) (y :: ys)=x :: dw xs ys:=by unfold dw; rw [lU h1 h2]; rfl
     rw [e,fH,fH,fH,h,nC hxy]
     cases decide (bQ y a=0) <;> cases hasB xs a <;> rfl
theorem LJ (xs ys:List A) (a:A):hasB (dw xs ys) a=(hasB xs a || hasB ys a):=O1 _ xs ys (Nat.le_refl _) a
theorem O3:∀ (n:Nat) (xs ys:List A),xs.length+ys.length≤n→ig xs=true→ig ys=true→fQ xs ys=dW xs ys:=by
 intro n
 induction n with
 | zero=>
  intro xs ys hn _ _;obtain rfl:xs = []:=List.length_eq_zero_iff.1 (by omega);obtain rfl:ys = []:=List.length_eq_zero_iff.1 (by omega);unfold fQ; rw [bP]; rfl
 | succ n ih=>
  intro xs ys hn hx hy
  match xs,ys with
  | [],[]=>unfold fQ; rw [bP]; rfl
  | [],y :: ys=>
   have h:=ih [] ys (by simp at hn ⊢; omega) rfl (eX hy);have e:fQ [] (y :: ys)=fQ [] ys:=by unfold fQ; rw [bP]; rfl
   rw [e,h]; rfl
  | x :: xs,[]=>
   have h:=ih xs [] (by simp at hn ⊢; omega) (eX hx) rfl;have e:fQ (x :: xs) []=x :: fQ xs []:=by unfold fQ; rw [bP]; rfl
   rw [e,h]; simp [dW,hasB]
  | x :: xs,y :: ys=>
   by_cases h1:bQ x y < 0
   ·have h:=ih xs (y :: ys) (by simp at hn ⊢; omega) (eX hx) hy
    have e:fQ (x :: xs) (y :: ys)=x :: fQ xs (y :: ys):=by unfold fQ; rw [lS h1]; rfl
    have hn:hasB (y :: ys) x=false:=wV fun z hz=>by
     rcases List.mem_cons.1 hz with rfl | hz
     ·exact h1
     ·exact iK h1 (by have:=fK hy z hz; omega)
    rw [e,h]; simp [dW,hn]
   ·by_cases h2:0 < bQ x y
    ·have h:=ih (x :: xs) ys (by simp at hn ⊢; omega) hx (eX hy)
     have hyx:bQ y x < 0:=by rw [kR x y]; omega
     have e:fQ (x :: xs) (y :: ys)=fQ (x :: xs) ys:=by unfold fQ; rw [lT h2]; rfl
     rw [e,h];unfold dW;refine List.filter_congr fun z hz=>?_
     have:bQ y z < 0:=by
      rcases List.mem_cons.1 hz with rfl | hz
      ·exact hyx
      ·exact iK hyx (by have:=fK hx z hz; omega)
     rw [fH,decide_eq_false (by omega)]; rfl
    ·have h:=ih xs ys (by simp at hn ⊢; omega) (eX hx) (eX hy)
     have hxy:bQ x y=0:=by omega
     have e:fQ (x :: xs) (y :: ys)=fQ xs ys:=by unfold fQ; rw [lU h1 h2]; rfl
     have hyx:bQ y x=0:=by rw [kR x y]; omega
     rw [e,h];unfold dW;rw [List.filter_cons,fH,decide_eq_true hyx];simp only [Bool.true_or,Bool.not_true,Bool.false_eq_true,if_false];refine List.filter_congr fun z hz=>?_
     have:bQ y z < 0:=by rw [← nC hxy]; exact fK hx z hz
     rw [fH,decide_eq_false (by omega)]; rfl
theorem vN {xs ys:List A} (hx:ig xs=true) (hy:ig ys=true):fQ xs ys=dW xs ys:=O3 _ xs ys (Nat.le_refl _) hx hy
def kS (xs ys:List A):List A:=ys.foldl fA xs
theorem Ba:∀ {ys xs:List A},ig xs=true→ig (kS xs ys)=true
 | [],_,h=>h
 | y :: ys,xs,h=>Ba (ys:=ys) (AL h y)
theorem Et:∀ (ys xs:List A) (a:A),hasB (kS xs ys) a=(hasB xs a || hasB ys a)
 | [],xs,a=>by simp [kS,hasB]
 | y :: ys,xs,a=>by
  show hasB (kS (fA xs y) ys) a=_;rw [Et ys,Iw,fH,Bool.or_assoc]
theorem Bc:∀ {ys xs:List A} {x:A},x ∈ kS xs ys→x ∈ xs∨x ∈ ys
 | [],_,_,h=>.inl h
 | y :: ys,xs,x,h=>by
  rcases Bc (ys:=ys) (xs:=fA xs y) h with h | h
  ·rcases Gg h with h | rfl
   ·exact .inl h
   ·exact .inr (List.mem_cons_self ..)
  ·exact .inr (List.mem_cons_of_mem _ h)
theorem sD:∀ (ys xs:List A),(kS xs ys).length≤xs.length+ys.length
 | [],xs=>by simp [kS]
 | y :: ys,xs=>by
  have h1:=sD ys (fA xs y);have h2:=DT xs y;simp only [List.length_cons];show (kS (fA xs y) ys).length≤_;omega
theorem LK {xs ys:List A} (hx:ig xs=true) (hy:ig ys=true) (fx:∀ x ∈ xs,dM x=true) (fy:∀ x ∈ ys,dM x=true):dw xs ys=kS xs ys:=
 Gf (O0 hx hy) (Ba hx) (fun z hz=>(nS hz).elim (fx z) (fy z)) (fun z hz=>(Bc hz).elim (fx z) (fy z)) fun a=>by rw [LJ,Et]
end D
end Go.Proofs.YtiidmgchadagbaaGreatDoor
namespace Go.Proofs.YtiidmgchadagbaaGreatDoor
open Go.RowKit D
namespace D
def Bf {α:Type} (n:Nat) (R:Rel α):Prop:=∀ {w cs x bs},R w cs x bs→cs.length=n∧∀ u ∈ cs,Value.oneCell' u=true
theorem qI:Bf 2 nD:=fun h=>by obtain ⟨rfl,_⟩:=h; simp [Value.oneCell']
theorem dP:Bf 2 aU:=fun h=>by
 obtain ⟨s,rfl,_,ht⟩:=h;obtain ⟨Ad,cap,rfl,_⟩:=af ht;simp [Value.oneCell']
theorem Bg:Bf 3 jK:=fun h=>by
 obtain ⟨s,b,_,_,rfl,_,_,ht,hp⟩:=h;obtain ⟨Ad,cap,rfl,_⟩:=af ht;obtain ⟨Ae,cape,rfl,_⟩:=af hp;simp [Value.oneCell']
theorem fU:Bf 1 jk:=fun h=>by obtain ⟨rfl,_⟩:=h; simp [Value.oneCell']
structure aV {α:Type} (n:Nat) (R:Rel α) (w:World) (L:List Value) (xs:List α) (bs:List Nat):Prop where
 len:L.length=xs.length * n
 one:∀ u ∈ L,Value.oneCell' u=true
 at_:∃ G:Nat→List Nat,bs=(List.range xs.length).flatMap G∧∀ j (h:j < xs.length),R w ((L.drop (j * n)).take n) xs[j] (G j)
theorem aV.nil {α:Type} {n:Nat} {R:Rel α} {w:World}:aV n R w [] [] []:=⟨by simp,fun u hu=>by simp at hu,fun _=>[],rfl,fun j h=>absurd h (Nat.not_lt_zero _)⟩
theorem aV.keep {α:Type} {n:Nat} {R:Rel α} (g:Good R) {w w':World} {L:List Value} {xs:List α} {bs:List Nat} (h:aV n R w L xs bs) (hk:∀ b ∈ bs,w'.heap[b]? = w.heap[b]?):aV n R w' L xs bs:=by
 obtain ⟨h1,h2,G,rfl,h3⟩:=h;exact ⟨h1,h2,G,rfl,fun j hj=>g.keep (h3 j hj) fun b hb=>hk b (List.mem_flatMap.2 ⟨j,List.mem_range.2 hj,hb⟩)⟩
theorem aV.lt {α:Type} {n:Nat} {R:Rel α} (g:Good R) {w:World} {L:List Value} {xs:List α} {bs:List Nat} (h:aV n R w L xs bs):∀ b ∈ bs,b < w.heap.size:=by
 obtain ⟨h1,h2,G,rfl,h3⟩:=h;intro b hb;obtain ⟨j,hj,hb⟩:=List.mem_flatMap.1 hb;exact g.lt (h3 j (List.mem_range.1 hj)) b hb
theorem aV.below {α:Type} {n:Nat} {R:Rel α} (g:Good R) {w w':World} {L:List Value} {xs:List α} {bs:List Nat} (h:aV n R w L xs bs) (hb:Below w.heap.size w w'):aV n R w' L xs bs:=
 h.keep g fun b hbs=>hb.block b (h.lt g b hbs)
theorem aV.dB {α:Type} {n:Nat} {R:Rel α} (o:Bf n R) {w:World} {cs:List Value} {x:α} {bs:List Nat} (h:R w cs x bs):aV n R w cs [x] bs:=by
 refine ⟨by rw [(o h).1]; simp,(o h).2,fun _=>bs,by simp,fun j hj=>?_⟩;obtain rfl:j=0:=by simpa using hj
 simp only [Nat.zero_mul,List.drop_zero,List.getElem_cons_zero];rw [List.take_of_length_le (by rw [(o h).1]; omega)];exact h
theorem aV.append {α:Type} {n:Nat} {R:Rel α} {w:World} {L M:List Value} {xs ys:List α} {b1 b2:List Nat} (h:aV n R w L xs b1) (k:aV n R w M ys b2):aV n R w (L ++ M) (xs ++ ys) (b1 ++ b2):=by
 obtain ⟨h1,h2,G,rfl,h3⟩:=h;obtain ⟨k1,k2,H,rfl,k3⟩:=k;refine ⟨by rw [List.length_append,List.length_append,h1,k1,Nat.add_mul],fun u hu=>(List.mem_append.1 hu).elim (h2 u) (k2 u),fun j=>if j < xs.length then G j else H (j - xs.length),?_,fun j hj=>?_⟩
 ·rw [List.length_append,List.range_add,List.flatMap_append]
  congr 1
  ·rw [List.flatMap_def,List.flatMap_def]; congr 1
   exact List.map_congr_left fun j hj=>by rw [if_pos (List.mem_range.1 hj)]
  ·rw [List.flatMap_map,List.flatMap_def,List.flatMap_def]; congr 1
   exact List.map_congr_left fun j hj=>by
    show H j=if xs.length+j < xs.length then G (xs.length+j) else H (xs.length+j - xs.length)
    rw [if_neg (by omega),Nat.add_sub_cancel_left]
 ·rw [List.length_append] at hj
  by_cases hlt:j < xs.length
  ·simp only [if_pos hlt]
   have hm:j * n+n≤xs.length * n:=by
    have:=Nat.mul_le_mul_right n (show j+1≤xs.length by omega);rw [Nat.add_mul,Nat.one_mul] at this; exact this
   rw [List.drop_append_of_le_length (by omega),List.take_append_of_le_length (by rw [List.length_drop]; omega),List.getElem_append_left hlt];exact h3 j hlt
  ·simp only [if_neg hlt]
   have hm:xs.length * n≤j * n:=Nat.mul_le_mul_right n (by omega);rw [List.getElem_append_right (by omega),List.drop_append,List.drop_of_length_le (by omega),List.nil_append,h1,← Nat.sub_mul];exact k3 (j - xs.length) (by omega)
theorem aV.take {α:Type} {n:Nat} {R:Rel α} {w:World} {L:List Value} {xs:List α} {bs:List Nat} (h:aV n R w L xs bs) {k:Nat} (hk:k≤xs.length):∃ b2,aV n R w (L.take (k * n)) (xs.take k) b2∧∀ b ∈ b2,b ∈ bs:=by
 obtain ⟨h1,h2,G,rfl,h3⟩:=h;have hkn:k * n≤xs.length * n:=Nat.mul_le_mul_right n hk;refine ⟨_,⟨by simp only [List.length_take]; rw [h1,Nat.min_eq_left hkn,Nat.min_eq_left hk],fun u hu=>h2 u (List.mem_of_mem_take hu),G,rfl,fun j hj=>?_⟩,fun b hb=>?_⟩
 ·have hj':j < k:=by simp at hj; omega
  have hm:j * n+n≤k * n:=by
   have:=Nat.mul_le_mul_right n (show j+1≤k by omega);rw [Nat.add_mul,Nat.one_mul] at this; exact this
  rw [List.drop_take,List.take_take,Nat.min_eq_left (by omega),List.getElem_take];exact h3 j (by omega)
 ·obtain ⟨j,hj,hb⟩:=List.mem_flatMap.1 hb
  have:=List.mem_range.1 hj;exact List.mem_flatMap.2 ⟨j,List.mem_range.2 (by simp at this; omega),hb⟩
theorem aV.drop {α:Type} {n:Nat} {R:Rel α} {w:World} {L:List Value} {xs:List α} {bs:List Nat} (h:aV n R w L xs bs) {k:Nat} (hk:k≤xs.length):∃ b2,aV n R w (L.drop (k * n)) (xs.drop k) b2∧∀ b ∈ b2,b ∈ bs:=by
 obtain ⟨h1,h2,G,rfl,h3⟩:=h;refine ⟨_,⟨by simp only [List.length_drop]; rw [h1,Nat.sub_mul],fun u hu=>h2 u (List.mem_of_mem_drop hu),fun j=>G (k+j),rfl,fun j hj=>?_⟩,fun b hb=>?_⟩
 ·rw [List.drop_drop,← Nat.add_mul,List.getElem_drop]
  exact h3 (k+j) (by simp at hj; omega)
 ·obtain ⟨j,hj,hb⟩:=List.mem_flatMap.1 hb
  have:=List.mem_range.1 hj;exact List.mem_flatMap.2 ⟨k+j,List.mem_range.2 (by simp at this; omega),hb⟩
theorem Oh {n:Nat} {F:Nat→List Value}:∀ {m:Nat},(∀ k,k < m→(F k).length=n)→((List.range m).flatMap F).length=m * n∧∀ k i,k < m→i < n→((List.range m).flatMap F)[k * n+i]? = (F k)[i]?
 | 0,_=>⟨by simp,fun k i hk=>absurd hk (Nat.not_lt_zero _)⟩
 | m+1,h=>by
  obtain ⟨h1,h2⟩:=Oh (m:=m) fun k hk=>h k (by omega)
  rw [List.range_succ,List.flatMap_append];simp only [List.flatMap_cons,List.flatMap_nil,List.append_nil];refine ⟨by rw [List.length_append,h1,h m (by omega),Nat.add_mul,Nat.one_mul],fun k i hk hi=>?_⟩;by_cases e:k=m
  ·subst e
   rw [List.getElem?_append_right (by omega),h1,Nat.add_sub_cancel_left]
  ·have hm:k * n+n≤m * n:=by
    have:=Nat.mul_le_mul_right n (show k+1≤m by omega);rw [Nat.add_mul,Nat.one_mul] at this; exact this
   rw [List.getElem?_append_left (by omega)];exact h2 k i (by omega) hi
theorem qJ {α:Type} {n:Nat} {R:Rel α} (o:Bf n R) (hn:0 < n) {w:World} {Ad:Option Addr} {len cap:Nat} {xs:List α} {bs:List Nat} (h:iR n R w [.slice Ad len cap] xs bs):
  ∃ L b2,aV n R w L xs b2∧(∀ b ∈ b2,b ∈ bs)∧(xs ≠ []→∃ b o,Ad=some ⟨b,o,none⟩∧b ∈ bs∧∀ j u,L[j]? = some u→w.cell? ⟨b,o+j,none⟩=some u):=by
 obtain ⟨Ad',cap',hcs,hl,hm,h0,h1⟩:=h;by_cases hne:xs = []
 ·subst hne
  exact ⟨[],[],aV.nil,fun b hb=>by simp at hb,fun h=>absurd rfl h⟩
 ·simp only [List.cons.injEq,Value.slice.injEq,and_true] at hcs
  obtain ⟨rfl,rfl,rfl⟩:=hcs;obtain ⟨b,o',rfl,F,G,rfl,hF⟩:=h1 hne;have hlen:∀ k,k < xs.length→(F k).length=n:=fun k hk=>(hF k _ (List.getElem?_eq_getElem hk)).1
  obtain ⟨f1,f2⟩:=Oh hlen
  have hpart:∀ k,k < xs.length→(((List.range xs.length).flatMap F).drop (k * n)).take n=F k:=by
   intro k hk;refine List.ext_getElem? fun i=>?_
   by_cases hi:i < n
   ·rw [List.getElem?_take_of_lt hi,List.getElem?_drop]; exact f2 k i hk hi
   ·rw [List.getElem?_eq_none (by rw [List.length_take]; omega),List.getElem?_eq_none (by rw [hlen k hk]; omega)]
  refine ⟨(List.range xs.length).flatMap F,(List.range xs.length).flatMap G,⟨f1,fun u hu=>?_,G,rfl,fun j hj=>?_⟩,fun c hc=>List.mem_cons_of_mem _ hc,fun _=>⟨b,o',rfl,by simp,fun j u hu=>?_⟩⟩
  ·obtain ⟨k,hk,hu⟩:=List.mem_flatMap.1 hu
   exact (o (hF k _ (List.getElem?_eq_getElem (List.mem_range.1 hk))).2.2).2 u hu
  ·rw [hpart j hj]; exact (hF j _ (List.getElem?_eq_getElem hj)).2.2
  ·have hjl:=(List.getElem?_eq_some_iff.1 hu).1
   rw [f1] at hjl;have hk:j / n < xs.length:=(Nat.div_lt_iff_lt_mul hn).2 hjl;have hi:=Nat.mod_lt j hn;have e:j / n * n+j % n=j:=by rw [Nat.mul_comm]; exact Nat.div_add_mod j n
   rw [← e,f2 _ _ hk hi] at hu;have:=(hF (j / n) _ (List.getElem?_eq_getElem hk)).2.1 (j % n) u hu;rw [e] at this; exact this
theorem aV.slice {α:Type} {n:Nat} {R:Rel α} {w:World} {L:List Value} {xs:List α} {bs:List Nat} (h:aV n R w L xs bs) {base e:Nat} {v:Value} (hown:w.ownsRow base e n v xs.length L):
  ∃ b2,iR n R w [v] xs b2∧∀ b ∈ b2,base≤b∨b ∈ bs:=by
 obtain ⟨h1,_,G,rfl,h3⟩:=h
 rcases hown.2 with ⟨rfl,hL⟩ | ⟨g,cap,cur,rfl,hg,hh,hc1,hc2,hc3⟩
 ·have hx:xs = []:=by
   by_cases hne:xs = []
   ·exact hne
   ·exfalso
    have hpos:0 < xs.length:=List.length_pos_iff.2 hne
    first
     | (rw [hL] at hpos; omega)
     | omega
  subst hx;exact ⟨[],⟨none,0,rfl,Nat.zero_le _,Nat.zero_le _,fun _=>rfl,fun h=>absurd rfl h⟩,fun b hb=>by simp at hb⟩
 ·by_cases hne:xs = []
  ·subst hne
   exact ⟨[],⟨_,cap,rfl,hc1,hc2,fun _=>rfl,fun h=>absurd rfl h⟩,fun b hb=>by simp at hb⟩
  ·refine ⟨g :: (List.range xs.length).flatMap G,⟨_,cap,rfl,hc1,hc2,fun h=>absurd h hne,fun _=>⟨g,0,rfl,fun k=>(L.drop (k * n)).take n,G,rfl,fun k x hx=>?_⟩⟩,fun b hb=>?_⟩
   ·obtain ⟨hkl,rfl⟩:=List.getElem?_eq_some_iff.1 hx
    have hmul:k * n+n≤xs.length * n:=by
     have:=Nat.mul_le_mul_right n (show k+1≤xs.length by omega);rw [Nat.add_mul,Nat.one_mul] at this; exact this
    refine ⟨by simp; omega,fun j v hv=>?_,h3 k hkl⟩
    have hjn:j < n:=by
     have:=(List.getElem?_eq_some_iff.1 hv).1;simp at this; omega
    rw [List.getElem?_take_of_lt hjn,List.getElem?_drop] at hv;rw [Nat.zero_add,hown.cellAt (k * n+j) (by omega)];exact hv
   ·rcases List.mem_cons.1 hb with rfl | hb
    ·exact .inl hg
    ·exact .inr hb
end D
end Go.Proofs.YtiidmgchadagbaaGreatDoor
namespace Go.Proofs.YtiidmgchadagbaaGreatDoor
open Go.RowKit D
namespace D
variable {P:Program}
theorem addr_add (b o j:Nat):(⟨b,o,none⟩:Addr).add j=⟨b,o+j,none⟩:=by unfold Addr.add; split <;> simp_all
theorem jW {w:World} {base e size n:Nat} {v:Value} {L:List Value} (h:w.ownsRow base e size v n L):∃ A cap,v=.slice A n cap:=by
 rcases h.2 with ⟨rfl,rfl⟩ | ⟨g,cap,_,rfl,_⟩
 ·exact ⟨none,0,rfl⟩
 ·exact ⟨_,cap,rfl⟩
theorem Iz (w:World) (base:Nat) (t ty e:TypeId) (i:TypeInfo) (size:Nat) (ht:P.underlying t=some (.slice e)) (hi:P.info? e=some i)
  (v:Value) (n:Nat) (xs:List Value) (hown:w.ownsRow base e size v n xs) (c:Nat):(Builtin.append_ #[t,t] ty #[v,.slice none 0 c]).run P w=.ok v w:=by
 rcases hown.2 with ⟨rfl,rfl⟩ | ⟨g,cap,cur,rfl,_,_,hnc,_⟩
 ·simp [Builtin.append_,run_underlying ht,sizeOf,typeInfo,hi,Builtin.lenOf,Builtin.firstCells]
 ·simp [Builtin.append_,run_underlying ht,sizeOf,typeInfo,hi,Builtin.lenOf,Builtin.firstCells,hnc,storeCells]
def Lies (w:World) (Ad:Option Addr) (news:List Value):Prop:=∀ j u,news[j]? = some u→∃ ad,Ad=some ad∧w.cell? (ad.add j)=some u
theorem Lies.nil (w:World) (Ad:Option Addr):Lies w Ad []:=fun j u h=>by simp at h
theorem Lies.mk {w:World} {b o:Nat} {news:List Value} (h:∀ j u,news[j]? = some u→w.cell? ⟨b,o+j,none⟩=some u):Lies w (some ⟨b,o,none⟩) news:=fun j u hj=>⟨_,rfl,by rw [addr_add]; exact h j u hj⟩
theorem UL (w:World) (base:Nat) (t ty e:TypeId) (i:TypeInfo) (z:Value) (size bytes:Nat) (ht:P.underlying t=some (.slice e)) (hi:P.info? e=some i) (hz:i.zero=some z)
  (hsize:i.size=size) (hby:i.bytes=bytes) (hzs:z.cells.size=size) (hsz:0 < size)
  (v:Value) (n:Nat) (xs:List Value) (hown:w.ownsRow base e size v n xs)
  (Ad:Option Addr) (m c:Nat) (news:List Value) (hl:news.length=m * size) (hnews:Lies w Ad news) (h1:∀ u ∈ news,Value.oneCell' u=true)
  (h63:n+m≤maxLen) (hbytes:(n+m) * bytes≤140737488355328) (hbase:base≤w.heap.size):
  ∃ A cap w',(Builtin.append_ #[t,t] ty #[v,.slice Ad m c]).run P w=.ok (.slice A (n+m) cap) w'∧w'.ownsRow base e size (.slice A (n+m) cap) (n+m) (xs ++ news)∧w.grownBy w' v.ownBlock∧
   ((Value.slice A (n+m) cap).ownBlock=v.ownBlock∨(Value.slice A (n+m) cap).ownBlock=some w.heap.size):=by
 cases Ad with
 | none=>
  have hm:m=0:=by
   rcases Nat.eq_zero_or_pos m with h | h
   ·exact h
   ·exfalso
    have hpos:0 < news.length:=by rw [hl]; exact Nat.mul_pos h hsz
    obtain ⟨ad,h,_⟩:=hnews 0 _ (List.getElem?_eq_getElem hpos);cases h
  subst hm;obtain rfl:news = []:=List.length_eq_zero_iff.1 (by rw [hl]; simp);obtain ⟨A,cap,rfl⟩:=jW hown;exact ⟨A,cap,w,Iz w base t ty e i size ht hi _ n xs hown c,by rw [List.append_nil]; exact hown,⟨rfl,rfl,rfl,Nat.le_refl _,fun _ _ _=>rfl⟩,.inl rfl⟩
 | some ad=>
  obtain ⟨v',w',hr,h2,h3,_,h5⟩:=run_append_own_at (P:=P) w base t ty e i z size bytes ht hi hz hsize hby hzs hsz v n xs hown ad m c news hl
   (fun j u hj=>by obtain ⟨ad',h,h'⟩:=hnews j u hj; cases h; exact h') h1 h63 hbytes hbase
  obtain ⟨A,cap,rfl⟩:=jW h2;exact ⟨A,cap,w',hr,h2,h3,h5⟩
theorem Rj {w:World} {o:Oper} {a:Act} {K:Act→World→Prop} {Q:Exit→Act→World→Prop} (s x:Operand) (t:TypeId)
  (ho:o.op=.call { callee:=.builtin .append,args:=#[s,x],argTypes:=#[t,t] })
  (base:Nat) (e:TypeId) (i:TypeInfo) (z:Value) (size bytes:Nat) (ht:P.underlying t=some (.slice e)) (hi:P.info? e=some i) (hz:i.zero=some z)
  (hsize:i.size=size) (hby:i.bytes=bytes) (hzs:z.cells.size=size) (hsz:0 < size)
  (v:Value) (n:Nat) (xs:List Value) (hs:a.eval s=v) (hown:w.ownsRow base e size v n xs)
  (Ad:Option Addr) (m c:Nat) (news:List Value) (hx:a.eval x=.slice Ad m c) (hl:news.length=m * size) (hnews:Lies w Ad news) (h1:∀ u ∈ news,Value.oneCell' u=true)
  (h63:n+m≤maxLen) (hbytes:(n+m) * bytes≤140737488355328) (hbase:base≤w.heap.size)
  (h:∀ A cap w',w'.ownsRow base e size (.slice A (n+m) cap) (n+m) (xs ++ news)→w.grownBy w' v.ownBlock→((Value.slice A (n+m) cap).ownBlock=v.ownBlock∨(Value.slice A (n+m) cap).ownBlock=some w.heap.size)→K (a.put o.dst (.slice A (n+m) cap)) w'):o.wp P a w K Q:=by
 obtain ⟨A,cap,w',hr,h2,h3,h4⟩:=UL (P:=P) w base t o.type e i z size bytes ht hi hz hsize hby hzs hsz v n xs hown Ad m c news hl hnews h1 h63 hbytes hbase;unfold Oper.wp execOp;simp only [ho,resolve,invoke,builtin,Sem.run_bind,Sem.run_pure,Result.andThen_ok,List.map_toArray,List.map_cons,List.map_nil,hs,hx,hr];exact h A cap w' h2 h3 h4
theorem vO {w:World} {ops:Array Oper} {rest:List Oper} {o:Oper} {a:Act} {Q:Exit→Act→World→Prop} (hgd:o.guard=none) (s x:Operand) (t:TypeId)
  (ho:o.op=.call { callee:=.builtin .append,args:=#[s,x],argTypes:=#[t,t] })
  (base:Nat) (e:TypeId) (i:TypeInfo) (z:Value) (size bytes:Nat) (ht:P.underlying t=some (.slice e)) (hi:P.info? e=some i) (hz:i.zero=some z)
  (hsize:i.size=size) (hby:i.bytes=bytes) (hzs:z.cells.size=size) (hsz:0 < size)
  (v:Value) (n:Nat) (xs:List Value) (hs:a.eval s=v) (hown:w.ownsRow base e size v n xs)
  (Ad:Option Addr) (m c:Nat) (news:List Value) (hx:a.eval x=.slice Ad m c) (hl:news.length=m * size) (hnews:Lies w Ad news) (h1:∀ u ∈ news,Value.oneCell' u=true)
  (h63:n+m≤maxLen) (hbytes:(n+m) * bytes≤140737488355328) (hbase:base≤w.heap.size)
  (h:∀ A cap w',w'.ownsRow base e size (.slice A (n+m) cap) (n+m) (xs ++ news)→w.grownBy w' v.ownBlock→((Value.slice A (n+m) cap).ownBlock=v.ownBlock∨(Value.slice A (n+m) cap).ownBlock=some w.heap.size)→wpList P ops Q rest (a.put o.dst (.slice A (n+m) cap)) w'):wpList P ops Q (o :: rest) a w:=
 wpList_plain hgd fun _ hK=>Rj s x t ho base e i z size bytes ht hi hz hsize hby hzs hsz v n xs hs hown Ad m c news hx hl hnews h1 h63 hbytes hbase fun A cap w' h2 h3 h4=>hK _ _ (h A cap w' h2 h3 h4)
theorem iC {w:World} {ops:Array Oper} {o:Oper} {a:Act} {K:Act→World→Prop} {Q:Exit→Act→World→Prop} {E:Prop} (hgd:o.guard=none) (s x:Operand) (t:TypeId)
  (ho:o.op=.call { callee:=.builtin .append,args:=#[s,x],argTypes:=#[t,t] })
  (base:Nat) (e:TypeId) (i:TypeInfo) (z:Value) (size bytes:Nat) (ht:P.underlying t=some (.slice e)) (hi:P.info? e=some i) (hz:i.zero=some z)
  (hsize:i.size=size) (hby:i.bytes=bytes) (hzs:z.cells.size=size) (hsz:0 < size)
  (v:Value) (n:Nat) (xs:List Value) (hs:a.eval s=v) (hown:w.ownsRow base e size v n xs)
  (Ad:Option Addr) (m c:Nat) (news:List Value) (hx:a.eval x=.slice Ad m c) (hl:news.length=m * size) (hnews:Lies w Ad news) (h1:∀ u ∈ news,Value.oneCell' u=true)
  (h63:n+m≤maxLen) (hbytes:(n+m) * bytes≤140737488355328) (hbase:base≤w.heap.size)
  (h:∀ A cap w',w'.ownsRow base e size (.slice A (n+m) cap) (n+m) (xs ++ news)→w.grownBy w' v.ownBlock→((Value.slice A (n+m) cap).ownBlock=v.ownBlock∨(Value.slice A (n+m) cap).ownBlock=some w.heap.size)→K (a.put o.dst (.slice A (n+m) cap)) w'):
  if Region.wanted o (yielded ops a.tmps)=true then Oper.wp P o a w K Q else E:=by
 have hw:Region.wanted o (yielded ops a.tmps)=true:=by simp [Region.wanted,hgd]
 rw [if_pos hw];exact Rj s x t ho base e i z size bytes ht hi hz hsize hby hzs hsz v n xs hs hown Ad m c news hx hl hnews h1 h63 hbytes hbase h
theorem LM (w:World) (base:Nat) (dT sT ty e:TypeId) (size n dCap:Nat) (hu:P.underlying dT=some (.slice e)) (hs:(P.info? e).map (·.size)=some size) (g:Nat) (L:List Value)
  (hown:w.ownsRow base e size (.slice (some ⟨g,0,none⟩) n dCap) n L) (ad:Addr) (sCap:Nat) (cs:List Value) (hn:cs.length=n * size)
  (hsrc:∀ j v,cs[j]? = some v→w.cell? (ad.add j)=some v) (h1:∀ v ∈ cs,Value.oneCell' v=true):
  ∃ w',(Builtin.copy_ #[dT,sT] ty #[.slice (some ⟨g,0,none⟩) n dCap,.slice (some ad) n sCap]).run P w=.ok (goInt n) w'∧w'.ownsRow base e size (.slice (some ⟨g,0,none⟩) n dCap) n cs∧w.grownBy w' (some g):=by
 rcases hown.2 with ⟨h,_⟩ | ⟨g',cap,cur,hv,hb,hh,hc1,hc2,hc3,_⟩
 ·cases h
 ·simp only [Value.slice.injEq,Option.some.injEq,Addr.mk.injEq,and_true,true_and] at hv
  obtain ⟨rfl,rfl⟩:=hv;have hle:n * size≤dCap * size:=Nat.mul_le_mul_right _ hc1;have hl:=run_loadCells_list (P:=P) w ad cs hsrc;have hst:=run_storeCells_at P g 0 e cs 0 cur w hh (by omega) h1;have hh2:=setRow_heap w g cur (cur.toList.take (0+0) ++ cs ++ cur.toList.drop (0+0+cs.length)).toArray e (0,0) hh;refine ⟨_,?_,⟨hn,.inr ⟨g,dCap,_,rfl,hb,hh2,hc1,hc2,?_,?_⟩⟩,⟨rfl,rfl,rfl,by simp [World.setRow],fun k _ hk=>setRow_other w g k _ fun e=>hk (by rw [e])⟩⟩
  ·cases hq:P.info? e with
   | none=>simp [hq] at hs
   | some i=>
    have hi:i.size=size:=by simpa [hq] using hs
    have hnat:Nat.min n n=n:=Nat.min_self n;simp [Builtin.copy_,run_underlying hu,Builtin.lenOf,Builtin.firstCells,sizeOf,typeInfo,hq,hi,hnat,← hn,hl,hst]
  ·simp; omega
  ·simp [← hn]
theorem DU {w:World} {ops:Array Oper} {rest:List Oper} {o:Oper} {a:Act} {Q:Exit→Act→World→Prop} (hgd:o.guard=none) (d s:Operand) (dT sT:TypeId)
  (ho:o.op=.call { callee:=.builtin .copy,args:=#[d,s],argTypes:=#[dT,sT] }) (base:Nat) (e:TypeId) (size n dCap:Nat) (hu:P.underlying dT=some (.slice e)) (hsz:(P.info? e).map (·.size)=some size) (g:Nat) (L:List Value)
  (hown:w.ownsRow base e size (.slice (some ⟨g,0,none⟩) n dCap) n L) (ad:Addr) (sCap:Nat) (cs:List Value) (hn:cs.length=n * size)
  (hsrc:∀ j v,cs[j]? = some v→w.cell? (ad.add j)=some v) (h1:∀ v ∈ cs,Value.oneCell' v=true)
  (hd:a.eval d=.slice (some ⟨g,0,none⟩) n dCap) (hs:a.eval s=.slice (some ad) n sCap)
  (h:∀ w',w'.ownsRow base e size (.slice (some ⟨g,0,none⟩) n dCap) n cs→w.grownBy w' (some g)→wpList P ops Q rest (a.put o.dst (goInt n)) w'):wpList P ops Q (o :: rest) a w:=by
 refine wpList_plain hgd fun K hK=>?_
 obtain ⟨w',hrun,h2,h3⟩:=LM (P:=P) w base dT sT o.type e size n dCap hu hsz g L hown ad sCap cs hn hsrc h1;unfold Oper.wp;simp [execOp,ho,resolve,invoke,builtin,hd,hs,hrun,Result.andThen];exact hK _ _ (h w' h2 h3)
theorem yJ {w:World} {base e size g:Nat} (hh:w.heap[g]? = some (.cells #[] e (0,0))) (hb:base≤g):w.ownsRow base e size (.slice (some ⟨g,0,none⟩) 0 0) 0 []:=
 ⟨by simp,.inr ⟨g,0,#[],rfl,hb,hh,Nat.le_refl _,Nat.zero_le _,by simp,by simp⟩⟩
structure cO {α:Type} (n:Nat) (R:Rel α) (base e:Nat) (w:World) (v:Value) (L:List Value) (xs:List α) (bs:List Nat):Prop where
 own:w.ownsRow base e n v xs.length L
 row:aV n R w L xs bs
 far:∀ b ∈ bs,v.ownBlock ≠ some b
section
variable {α:Type} {n:Nat} {R:Rel α} {base e:Nat}
theorem cO.nil (w:World):cO n R base e w (.slice none 0 0) [] ([]:List α) []:=⟨World.ownsRow_nil _ _ _ _,aV.nil,fun b hb=>by simp at hb⟩
theorem cO.empty {w:World} {g:Nat} (hh:w.heap[g]? = some (.cells #[] e (0,0))) (hb:base≤g):cO n R base e w (.slice (some ⟨g,0,none⟩) 0 0) [] ([]:List α) []:=⟨yJ hh hb,aV.nil,fun b hb=>by simp at hb⟩
theorem cO.below {w w':World} {v:Value} {L:List Value} {xs:List α} {bs:List Nat} (g:Good R) (h:cO n R base e w v L xs bs) (hb:Below w.heap.size w w'):cO n R base e w' v L xs bs:=
 ⟨own_below h.own hb,h.row.below g hb,h.far⟩
theorem cO.slice {w:World} {v:Value} {L:List Value} {xs:List α} {bs:List Nat} (h:cO n R base e w v L xs bs):∃ b2,iR n R w [v] xs b2∧∀ b ∈ b2,base≤b∨b ∈ bs:=h.row.slice h.own
theorem cO.app {W w2:World} {v v2:Value} {L M:List Value} {xs ys:List α} {bs b3:List Nat} (g:Good R) (h:cO n R base e W v L xs bs) (k:aV n R W M ys b3) (hf:∀ b ∈ b3,v.ownBlock ≠ some b)
  (hown:w2.ownsRow base e n v2 (xs.length+ys.length) (L ++ M)) (hgrow:W.grownBy w2 v.ownBlock) (hloc:v2.ownBlock=v.ownBlock∨v2.ownBlock=some W.heap.size):cO n R base e w2 v2 (L ++ M) (xs ++ ys) (bs ++ b3):=by
 have h1:=h.row.append k;refine ⟨by rw [List.length_append]; exact hown,h1.keep g fun b hb=>hgrow.block b (h1.lt g b hb) ?_,fun b hb=>?_⟩
 ·rcases List.mem_append.1 hb with hb | hb
  ·exact (h.far b hb).symm
  ·exact (hf b hb).symm
 ·have hne:v.ownBlock ≠ some b:=by
   rcases List.mem_append.1 hb with hb | hb
   ·exact h.far b hb
   ·exact hf b hb
  have hlt:=h1.lt g b hb
  rcases hloc with e | e
  ·rw [e]; exact hne
  ·rw [e]; intro e; injection e; omega
theorem wX {w:World} {size k:Nat} {v:Value} {L:List Value} (h:w.ownsRow base e size v k L) {b:Nat} (hb:w.heap.size≤b):v.ownBlock ≠ some b:=by
 rcases h.2 with ⟨rfl,_⟩ | ⟨g,cap,cur,rfl,_,hh,_⟩
 ·simp [Value.ownBlock]
 ·intro e'
  have:g=b:=by simpa [Value.ownBlock] using e'
  have:=lt_of_block hh;omega
theorem aJ {w:World} {size k:Nat} {v:Value} {L:List Value} (h:w.ownsRow base e size v k L) {b:Nat} (hb:b < base):v.ownBlock ≠ some b:=by
 rcases h.2 with ⟨rfl,_⟩ | ⟨g,cap,cur,rfl,hg,_⟩
 ·simp [Value.ownBlock]
 ·intro e'
  have:g=b:=by simpa [Value.ownBlock] using e'
  omega
theorem iV {w0 w w2:World} {B size k:Nat} {v:Value} {L:List Value} (hb:Below B w0 w) (h:w.ownsRow base e size v k L) (hB:B≤base) (hs:B≤w.heap.size) (hg:w.grownBy w2 v.ownBlock):Below B w0 w2:=
 hb.grown hg hs fun k e'=>by
  rcases h.2 with ⟨rfl,_⟩ | ⟨g,cap,cur,rfl,hg',_⟩
  ·simp [Value.ownBlock] at e'
  ·have:g=k:=by simpa [Value.ownBlock] using e'
   omega
end
theorem iH {α:Type} {R:Rel α} {w:World} {ops:Array Oper} {rest:List Oper} {o:Oper} {a:Act} {Q:Exit→Act→World→Prop} (hgd:o.guard=none) (s x:Operand) (t:TypeId)
  (ho:o.op=.call { callee:=.builtin .append,args:=#[s,x],argTypes:=#[t,t] })
  (base:Nat) (e:TypeId) (i:TypeInfo) (z:Value) (size bytes:Nat) (ht:P.underlying t=some (.slice e)) (hi:P.info? e=some i) (hz:i.zero=some z)
  (hsize:i.size=size) (hby:i.bytes=bytes) (hzs:z.cells.size=size) (hsz:0 < size) (g:Good R)
  (v:Value) (k:Nat) (L:List Value) (xs:List α) (bs:List Nat) (hs:a.eval s=v) (hC:cO size R base e w v L xs bs) (hk:xs.length=k)
  (Ad:Option Addr) (m c:Nat) (M:List Value) (ys:List α) (b3:List Nat) (hx:a.eval x=.slice Ad m c) (hR:aV size R w M ys b3) (hm:ys.length=m) (hL:Lies w Ad M) (hf:∀ b ∈ b3,v.ownBlock ≠ some b)
  (h63:k+m≤maxLen) (hbytes:(k+m) * bytes≤140737488355328) (w0:World) (B:Nat) (hB:Below B w0 w) (hBb:B≤base) (hbase:base≤w.heap.size)
  (h:∀ A cap w',cO size R base e w' (.slice A (k+m) cap) (L ++ M) (xs ++ ys) (bs ++ b3)→Below B w0 w'→base≤w'.heap.size→w.grownBy w' v.ownBlock→wpList P ops Q rest (a.put o.dst (.slice A (k+m) cap)) w'):wpList P ops Q (o :: rest) a w:=by
 subst hk hm;refine vO hgd s x t ho base e i z size bytes ht hi hz hsize hby hzs hsz v xs.length L hs hC.own Ad ys.length c M hx hR.len hL hR.one h63 hbytes hbase fun A cap w' h2 h3 h4=>?_
 exact h A cap w' (hC.app g hR hf h2 h3 h4) (iV hB hC.own hBb (Nat.le_trans hBb hbase) h3) (Nat.le_trans hbase h3.size) h3
theorem aN {α:Type} {R:Rel α} {w:World} {ops:Array Oper} {o:Oper} {a:Act} {K:Act→World→Prop} {Q:Exit→Act→World→Prop} {E:Prop} (hgd:o.guard=none) (s x:Operand) (t:TypeId)
  (ho:o.op=.call { callee:=.builtin .append,args:=#[s,x],argTypes:=#[t,t] })
  (base:Nat) (e:TypeId) (i:TypeInfo) (z:Value) (size bytes:Nat) (ht:P.underlying t=some (.slice e)) (hi:P.info? e=some i) (hz:i.zero=some z)
  (hsize:i.size=size) (hby:i.bytes=bytes) (hzs:z.cells.size=size) (hsz:0 < size) (g:Good R)
  (v:Value) (k:Nat) (L:List Value) (xs:List α) (bs:List Nat) (hs:a.eval s=v) (hC:cO size R base e w v L xs bs) (hk:xs.length=k)
  (Ad:Option Addr) (m c:Nat) (M:List Value) (ys:List α) (b3:List Nat) (hx:a.eval x=.slice Ad m c) (hR:aV size R w M ys b3) (hm:ys.length=m) (hL:Lies w Ad M) (hf:∀ b ∈ b3,v.ownBlock ≠ some b)
  (h63:k+m≤maxLen) (hbytes:(k+m) * bytes≤140737488355328) (w0:World) (B:Nat) (hB:Below B w0 w) (hBb:B≤base) (hbase:base≤w.heap.size)
  (h:∀ A cap w',cO size R base e w' (.slice A (k+m) cap) (L ++ M) (xs ++ ys) (bs ++ b3)→Below B w0 w'→base≤w'.heap.size→w.grownBy w' v.ownBlock→K (a.put o.dst (.slice A (k+m) cap)) w'):if Region.wanted o (yielded ops a.tmps)=true then Oper.wp P o a w K Q else E:=by
 subst hk hm;refine iC hgd s x t ho base e i z size bytes ht hi hz hsize hby hzs hsz v xs.length L hs hC.own Ad ys.length c M hx hR.len hL hR.one h63 hbytes hbase fun A cap w' h2 h3 h4=>?_
 exact h A cap w' (hC.app g hR hf h2 h3 h4) (iV hB hC.own hBb (Nat.le_trans hBb hbase) h3) (Nat.le_trans hbase h3.size) h3
theorem aS {w:World} {g:Nat} {cs:Array Value} {t:TypeId} {fr:Nat × Nat} (h:w.heap[g]? = some (.cells cs t fr)):Lies w (some ⟨g,0,none⟩) cs.toList:=
 Lies.mk fun j u hj=>by
  rw [Nat.zero_add,cell_of_row w g j cs t fr h];simpa using hj
def Reads {α:Type} (R:Rel α) (x:α) (B:Nat) (w:World) (e:Ending) (w':World):Prop:=Below B w w'∧∃ v bs,e=.returned v∧R w' [v] x bs
def Rk {α:Type} (R:Rel α) (x:α) (B:Nat) (w:World) (e:Ending) (w':World):Prop:=Below B w w'∧∃ cs bs,e=.returned (.agg cs)∧R w' cs.toList x bs
end D
end Go.Proofs.YtiidmgchadagbaaGreatDoor
namespace Go.Proofs.YtiidmgchadagbaaGreatDoor
open Go.RowKit D
namespace D
structure bU (bs:List Nat) (w w':World):Prop where
 os:w'.os=w.os
 tape:w'.tape=w.tape
 output:w'.output=w.output
 size:w.heap.size≤w'.heap.size
 block:∀ k,k < w.heap.size→k ∉ bs→w'.heap[k]? = w.heap[k]?
theorem bU.refl (bs:List Nat) (w:World):bU bs w w:=⟨rfl,rfl,rfl,Nat.le_refl _,fun _ _ _=>rfl⟩
theorem bU.trans {bs:List Nat} {a b c:World} (h:bU bs a b) (k:bU bs b c):bU bs a c:=
 ⟨k.os.trans h.os,k.tape.trans h.tape,k.output.trans h.output,Nat.le_trans h.size k.size,fun n hn hb=>(k.block n (Nat.lt_of_lt_of_le hn h.size) hb).trans (h.block n hn hb)⟩
theorem bU.of_below {bs:List Nat} {w w':World} (h:Below w.heap.size w w'):bU bs w w':=⟨h.os,h.tape,h.output,h.size,fun k hk _=>h.block k hk⟩
theorem bU.mono {bs cs:List Nat} {w w':World} (h:bU bs w w') (hs:∀ b ∈ bs,b ∈ cs):bU cs w w':=⟨h.os,h.tape,h.output,h.size,fun k hk hb=>h.block k hk fun h'=>hb (hs k h')⟩
theorem bU.setCell {bs:List Nat} {a w:World} (h:bU bs a w) {p:Addr} (hp:p.block ∈ bs) (u:Value):bU bs a (w.setCell p u):=
 h.trans ⟨rfl,rfl,rfl,by simp [World.setCell],fun k _ hk=>Below.heap_setCell _ _ _ _ fun e=>hk (by rw [e]; exact hp)⟩
theorem bU.below {bs:List Nat} {B:Nat} {w w':World} (h:bU bs w w') (hb:∀ b ∈ bs,B≤b) (hB:B≤w.heap.size):Below B w w':=
 ⟨h.os,h.tape,h.output,h.size,fun k hk=>h.block k (by omega) fun hm=>by have:=hb k hm; omega⟩
theorem bU.cell {bs:List Nat} {w w':World} (h:bU bs w w') {p:Addr} {v:Value} (hp:p.block ∉ bs) (hv:w.cell? p=some v):w'.cell? p=some v:=by
 rw [World.cell?_of_block (w:=w) (h.block p.block (lt_of_cell hv) hp)]; exact hv
theorem Good.kept {α:Type} {R:Rel α} (g:Good R) {bs cb:List Nat} {w w':World} {cs:List Value} {x:α} (h:R w cs x cb) (hk:bU bs w w') (hd:∀ b ∈ cb,b ∉ bs):R w' cs x cb:=
 g.keep h fun b hb=>hk.block b (g.lt h b hb) (hd b hb)
theorem New.kept {B:Nat} {bs cb:List Nat} {w w':World} (h:New B w cb) (hk:bU bs w w') (hd:∀ b ∈ cb,b ∉ bs):New B w' cb:=
 h.keep fun b hb=>hk.block b (h.lt hb) (hd b hb)
theorem apart {bs cb:List Nat} {B:Nat} (h1:∀ b ∈ bs,b < B) (h2:∀ b ∈ cb,B≤b):∀ b ∈ bs,b ∉ cb:=fun b hb hc=>by have:=h1 b hb; have:=h2 b hc; omega
def KY (w:World) (b:Nat):Prop:=∃ cur e,w.heap[b]? = some (.cells cur e (0,0))
theorem New.VO {B:Nat} {w:World} {bs:List Nat} (h:New B w bs):∀ b ∈ bs,KY w b:=fun b hb=>(h.own b hb).2
theorem KY.frozen {w:World} {b:Nat} (h:KY w b) (o:Nat):w.frozen? ⟨b,o,none⟩=false:=by obtain ⟨cur,e,h⟩:=h; simp [World.frozen?,h]
theorem KY.keep {w w':World} {b:Nat} (h:KY w b) (hk:w'.heap[b]? = w.heap[b]?):KY w' b:=by unfold KY; rw [hk]; exact h
theorem KY.setCell {w:World} {b:Nat} (h:KY w b) (p:Addr) (u:Value):KY (w.setCell p u) b:=by
 obtain ⟨cur,e,h⟩:=h;by_cases hb:b=p.block
 ·obtain ⟨pb,po,pp⟩:=p
  dsimp only at hb;subst hb;have hlt:=lt_of_block h;have h':w.heap[b]=.cells cur e (0,0):=by simpa [Array.getElem?_eq_getElem hlt] using h
  unfold KY;show ∃ cur e,(w.heap.modify b _)[b]? = _;rw [Array.getElem?_modify,if_pos rfl,h];exact ⟨_,_,rfl⟩
 ·exact ⟨cur,e,by rw [Below.heap_setCell _ _ _ _ hb]; exact h⟩
theorem dK {w:World} {b o o':Nat} {u v:Value} (h:w.cell? ⟨b,o',none⟩=some v) (hne:o' ≠ o):(w.setCell ⟨b,o,none⟩ u).cell? ⟨b,o',none⟩=some v:=by
 rw [World.cell?_setCell_other _ _ _ _ (by intro e; injection e with _ e; exact hne e.symm)]; exact h
theorem oU {α:Type} {n:Nat} {R:Rel α} (g:Good R) {w:World} {Ad:Option Addr} {len cap:Nat} {xs:List α} {bs:List Nat} (h:iR n R w [.slice Ad len cap] xs bs) (hnd:bs.Nodup) {k:Nat} (hk:k < xs.length):
  ∃ b o cs bk,Ad=some ⟨b,o,none⟩∧b ∈ bs∧b ∉ bk∧bk.Nodup∧(∀ c ∈ bk,c ∈ bs)∧cs.length=n∧(∀ j v,cs[j]? = some v→w.cell? ⟨b,o+(k * n+j),none⟩=some v)∧R w cs xs[k] bk∧
   ∀ w' cs' x',cs'.length=n→(∀ j v,cs'[j]? = some v→w'.cell? ⟨b,o+(k * n+j),none⟩=some v)→
    (∀ p v,w.cell? ⟨b,o+p,none⟩=some v→(p < k * n∨k * n+n≤p)→w'.cell? ⟨b,o+p,none⟩=some v)→
    (∀ c ∈ bs,c ≠ b→c ∉ bk→w'.heap[c]? = w.heap[c]?)→R w' cs' x' bk→iR n R w' [.slice Ad len cap] (xs.set k x') bs:=by
 obtain ⟨Ad',cap',hcs,hl,hm,h0,h1⟩:=h;simp only [List.cons.injEq,Value.slice.injEq,and_true] at hcs;obtain ⟨rfl,rfl,rfl⟩:=hcs;have hne:xs ≠ []:=by intro e; subst e; simp at hk
 obtain ⟨b,o,rfl,F,G,rfl,hF⟩:=h1 hne;obtain ⟨a1,a2,a3⟩:=hF k _ (List.getElem?_eq_getElem hk);have hnd':=List.nodup_cons.1 hnd;have hmem:∀ j c,j < xs.length→c ∈ G j→c ∈ (List.range xs.length).flatMap G:=fun j c hj hc=>List.mem_flatMap.2 ⟨j,List.mem_range.2 hj,hc⟩
 have hdis:∀ i j,i < xs.length→j < xs.length→i ≠ j→∀ c ∈ G i,c ∉ G j:=by
  intro i j hi hj hij c hc hc';have hp:=(List.pairwise_flatMap.1 hnd'.2).2
  rcases Nat.lt_or_gt_of_ne hij with h | h
  ·have:=List.pairwise_iff_getElem.1 hp i j (by simpa using hi) (by simpa using hj) h
   simp only [List.getElem_range] at this;exact this c hc c hc' rfl
  ·have:=List.pairwise_iff_getElem.1 hp j i (by simpa using hj) (by simpa using hi) h
   simp only [List.getElem_range] at this;exact this c hc' c hc rfl
 refine ⟨b,o,F k,G k,rfl,by simp,fun hb=>hnd'.1 (hmem k b hk hb),(List.pairwise_flatMap.1 hnd'.2).1 k (List.mem_range.2 hk),fun c hc=>List.mem_cons_of_mem _ (hmem k c hk hc),a1,a2,a3,?_⟩;intro w' cs' x' hlen hcells hrest hblk hR;refine ⟨_,cap,by rw [List.length_set],by rw [List.length_set]; exact hl,hm,fun e=>absurd e (by intro e; have:=congrArg List.length e; simp at this; exact hne this),fun _=>⟨b,o,rfl,fun j=>if j=k then cs' else F j,G,by rw [List.length_set],fun j x hx=>?_⟩⟩;obtain ⟨hjl,hxe⟩:=List.getElem?_eq_some_iff.1 hx;rw [List.length_set] at hjl;by_cases e:j=k
 ·subst e
  simp only [if_true];rw [List.getElem_set_self] at hxe;subst hxe;exact ⟨hlen,hcells,hR⟩
 ·simp only [if_neg e]
  rw [List.getElem_set_ne (Ne.symm e)] at hxe;obtain ⟨f1,f2,f3⟩:=hF j x (by rw [List.getElem?_eq_getElem hjl,hxe]);refine ⟨f1,fun i v hv=>?_,g.keep f3 fun c hc=>?_⟩
  ·have hi:i < n:=by have:=(List.getElem?_eq_some_iff.1 hv).1; omega
   refine hrest _ v (f2 i v hv) ?_
   rcases Nat.lt_or_gt_of_ne e with h | h
   ·left
    have:=Nat.mul_le_mul_right n (show j+1≤k by omega);rw [Nat.add_mul,Nat.one_mul] at this; omega
   ·right
    have:=Nat.mul_le_mul_right n (show k+1≤j by omega);rw [Nat.add_mul,Nat.one_mul] at this; omega
  ·exact hblk c (List.mem_cons_of_mem _ (hmem j c hjl hc)) (fun e'=>hnd'.1 (by rw [← e']; exact hmem j c hjl hc)) (hdis j k hjl hk e c hc)
def jO {α:Type} (mk:α→Nat→α) (cnt:α→Nat):List α→Nat→List α
 | [],_=>[]
 | x :: xs,k=>mk x k :: jO mk cnt xs (k+cnt x)
def kN {α:Type} (mk:α→Nat→α) (cnt:α→Nat) (xs:List α) (k i:Nat):List α:=jO mk cnt (xs.take i) k ++ xs.drop i
theorem iF {α:Type} {mk:α→Nat→α} {cnt:α→Nat}:∀ (xs:List α) (k:Nat),(jO mk cnt xs k).length=xs.length
 | [],_=>rfl
 | x :: xs,k=>by simp [jO,iF xs]
theorem qK {α:Type} {mk:α→Nat→α} {cnt:α→Nat}:∀ (xs ys:List α) (k:Nat),jO mk cnt (xs ++ ys) k=jO mk cnt xs k ++ jO mk cnt ys (k+bI cnt xs)
 | [],ys,k=>by simp [jO,bI]
 | x :: xs,ys,k=>by
  simp only [List.cons_append,jO,qK xs]
  congr 3
  simp [bI]; omega
theorem qL {α:Type} {mk:α→Nat→α} {cnt:α→Nat} (xs:List α) (k:Nat):kN mk cnt xs k xs.length=jO mk cnt xs k:=by simp [kN]
theorem kF {α:Type} {mk:α→Nat→α} {cnt:α→Nat} (xs:List α) (k i:Nat):(kN mk cnt xs k i).length=xs.length:=by
 simp [kN,iF]; omega
theorem uI {α:Type} {mk:α→Nat→α} {cnt:α→Nat} {xs:List α} {k i:Nat} (h:i < xs.length):(kN mk cnt xs k i)[i]'(by rw [kF]; exact h)=xs[i]:=by
 have hl:(jO mk cnt (xs.take i) k).length=i:=by rw [iF,List.length_take]; omega
 simp only [kN];rw [List.getElem_append_right (by omega)];simp [hl]
theorem oV {α:Type} {mk:α→Nat→α} {cnt:α→Nat} {xs:List α} {k i:Nat} (h:i < xs.length):(kN mk cnt xs k i).set i (mk xs[i] (k+bI cnt (xs.take i)))=kN mk cnt xs k (i+1):=by
 have hl:(jO mk cnt (xs.take i) k).length=i:=by rw [iF,List.length_take]; omega
 unfold kN;rw [List.set_append_right _ _ (by omega),hl,Nat.sub_self,List.drop_eq_getElem_cons h,List.set_cons_zero,List.take_succ_eq_append_getElem h,qK];simp [jO]
theorem IA {α:Type} {mk:α→Nat→α} {cnt:α→Nat} {xs:List α} {k i:Nat} (h:i < xs.length):(jO mk cnt xs k)[i]'(by rw [iF]; exact h)=mk xs[i] (k+bI cnt (xs.take i)):=by
 have hl:(jO mk cnt (xs.take i) k).length=i:=by rw [iF,List.length_take]; omega
 have e:jO mk cnt xs k=jO mk cnt (xs.take i) k ++ jO mk cnt (xs.drop i) (k+bI cnt (xs.take i)):=by rw [← qK,List.take_append_drop]
 simp only [e];rw [List.getElem_append_right (by omega)];simp only [hl,Nat.sub_self,List.drop_eq_getElem_cons h,jO,List.getElem_cons_zero]
def sF:Nat→Nat→List UInt8
 | 0,_=>[]
 | f+1,k=>if k=0 then [] else sF f (k / 10) ++ [UInt8.ofNat (48+k % 10)]
def aW (k:Nat):ByteArray:=if k=0 then ⟨#[109,48]⟩ else ⟨(109 :: sF k k).toArray⟩
theorem O4 : ∀ (f k : Nat), k ≤ f → sF f k = sF k k := by
  intro f
  induction f using Nat.strongRecOn with
  | ind f ih =>
    intro k hk
    cases f with
    | zero => obtain rfl : k = 0 := by omega
              rfl
    | succ f =>
      by_cases h0 : k = 0
      · subst h0; simp [sF]
      · obtain ⟨m, rfl⟩ : ∃ m, k = m + 1 := ⟨k - 1, by omega⟩
        simp only [sF, if_neg h0];rw [ih f (by omega) _ (by omega), ih m (by omega) _ (by omega)]
theorem Eu {k:Nat} (h:k ≠ 0):sF k k=sF (k / 10) (k / 10) ++ [UInt8.ofNat (48+k % 10)]:=by
 obtain ⟨m,rfl⟩:∃ m,k=m+1:=⟨k - 1,by omega⟩;simp only [sF,if_neg h];rw [O4 m _ (by omega)]
theorem IB : ∀ (n k : Nat), k < 10 ^ n → (sF k k).length ≤ n := by
  intro n
  induction n with
  | zero => intro k hk; obtain rfl : k = 0 := by simpa using hk
            simp [sF]
  | succ n ih =>
    intro k hk;by_cases h0 : k = 0
    · subst h0; simp [sF]
    · rw [Eu h0, List.length_append]
      have := ih (k / 10) (by rw [Nat.div_lt_iff_lt_mul (by omega)]; rw [Nat.pow_succ] at hk; omega);simp; omega
theorem l9 {k:Nat} (h:k < 10 ^ 18):(aW k).size≤maxLen:=by
 unfold aW maxLen
 split
 ·decide
 ·have:=IB 18 k h
  show (109 :: sF k k).toArray.size≤_;simp; omega
def mkT (t:T) (k:Nat):T:=⟨decide (k % 3=0),aW (k+1)⟩
def nY:List T→Nat→List T:=jO mkT (fun _=>2)
def WC (a:A) (k:Nat):A:=⟨aW k,nY a.args (k+1)⟩
def jf (a:A):Nat:=1+2 * a.args.length
def pI:List A→Nat→List A:=jO WC jf
theorem IC {α:Type} (xs:List α):bI (fun _=>2) xs=2 * xs.length:=by
 induction xs with
 | nil=>rfl
 | cons x xs ih=>simp only [bI,List.map_cons,List.sum_cons,List.length_cons] at *; omega
def Marked {α:Type} (R:Rel α) (cs:List Value) (x':α) (bs:List Nat) (k' B:Nat) (w:World) (e:Ending) (w':World):Prop:=
 e=.returned (.int .i64 k')∧R w' cs x' bs∧New B w' bs∧bU bs w w'
def Held (k':Nat) (w:World) (e:Ending) (w':World):Prop:=e=.returned (.int .i64 k')∧Below w.heap.size w w'
end D
end Go.Proofs.YtiidmgchadagbaaGreatDoor
namespace Go.Proofs.YtiidmgchadagbaaGreatDoor
open Go.RowKit D
theorem D.yK {a:A} (h:dM a=true):a.args.length≤3:=by
 unfold dM aZ at h;simp only [Bool.and_eq_true,decide_eq_true_eq] at h;exact h.1.1.2
theorem D.sG {w:World} {g:Nat}:aI w [.slice (some ⟨g,0,none⟩) 0 0] [] []:=⟨_,0,rfl,Nat.le_refl _,Nat.zero_le _,fun _=>rfl,fun h=>absurd rfl h⟩
theorem D.Ew:∀ (xs:List A),(∀ x ∈ xs,dM x=true)→bI jf xs≤7 * xs.length
 | [],_=>by simp [bI]
 | x :: xs,h=>by
  have h1:=Ew xs (fun y hy=>h y (List.mem_cons_of_mem _ hy));have h2:=yK (h x (List.mem_cons_self ..));simp only [bI,List.map_cons,List.sum_cons,List.length_cons] at *;unfold jf at *;omega
theorem D.cO.WZ {α:Type} {n:Nat} {R:Rel α} {base e r:Nat} {w w':World} {v:Value} {L:List Value} {xs:List α} {bs:List Nat} (gd:Good R) (h:cO n R base e w v L xs bs) (hk:bU [r] w w') (hr:r < base) (hb:r ∉ bs):cO n R base e w' v L xs bs:=
 ⟨⟨h.own.1,h.own.2.imp id fun ⟨g,cap,cur,e,hg,hh,rest⟩=>⟨g,cap,cur,e,hg,(hk.block g (lt_of_block hh) (by simp; omega)).trans hh,rest⟩⟩,h.row.keep gd fun b hbb=>hk.block b (h.row.lt gd b hbb) (by simp; intro e; exact hb (e ▸ hbb)),h.far⟩
theorem D.cO.Bh {α:Type} {n:Nat} {R:Rel α} {base e b o:Nat} {w:World} {u v:Value} {L:List Value} {xs:List α} {bs:List Nat} (gd:Good R) (h:cO n R base e w v L xs bs) (hr:v.ownBlock ≠ some b) (hb:b ∉ bs):cO n R base e (w.setCell ⟨b,o,none⟩ u) v L xs bs:=
 ⟨⟨h.own.1,h.own.2.imp id fun ⟨g,cap,cur,e,hg,hh,rest⟩=>⟨g,cap,cur,e,hg,(Below.heap_setCell _ _ _ _ (by intro e'; subst e'; subst e; exact hr rfl)).trans hh,rest⟩⟩,h.row.keep gd fun c hbb=>Below.heap_setCell _ _ _ _ (by intro e; apply hb; have e2:c=b:=e; rw [← e2]; exact hbb),h.far⟩
theorem Bj (w:World) (o1 o2:Obj):((w.alloc o1).alloc o2).heap[w.heap.size]? = some o1∧((w.alloc o1).alloc o2).heap[w.heap.size+1]? = some o2:=by
 refine ⟨(Below.heap_alloc _ _ _ (by simp)).trans (heap_alloc_new _ _),?_⟩;have:=heap_alloc_new (w.alloc o1) o2;simpa using this
theorem ak {w:World} {b o:Nat} {cs:Array Value} {t:TypeId} (h:w.heap[b]? = some (.cells cs t (0,0))):w.cell? ⟨b,o,none⟩=cs[o]?:=by simp [World.cell?,h]
theorem aB {w:World} {b o:Nat} {cs:Array Value} {t:TypeId} (h:w.heap[b]? = some (.cells cs t (0,0))):w.frozen? ⟨b,o,none⟩=false:=by simp [World.frozen?,h]
theorem Gh {w:World} {b:Nat} {x y u:Value} {t:TypeId} (h:w.heap[b]? = some (.cells #[x,y] t (0,0))):(w.setCell ⟨b,1,none⟩ u).heap[b]? = some (.cells #[x,u] t (0,0)):=by
 have hlt:=lt_of_block h;have h':w.heap[b]=.cells #[x,y] t (0,0):=by simpa [Array.getElem?_eq_getElem hlt] using h
 show (w.heap.modify b _)[b]? = _;rw [Array.getElem?_eq_getElem (by simpa using hlt),Array.getElem_modify_self,h'];rfl
theorem D.IE {α:Type} {n:Nat} {R:Rel α} {w w':World} {Ad:Option Addr} {L:List Value} {xs:List α} {b2 bs:List Nat} (h:aV n R w L xs b2) (hn:0 < n)
  (hs:xs ≠ []→∃ b o,Ad=some ⟨b,o,none⟩∧b ∈ bs∧∀ j u,L[j]? = some u→w.cell? ⟨b,o+j,none⟩=some u) (hlt:∀ b ∈ bs,b < w.heap.size) (hb:Below w.heap.size w w'):Lies w' Ad L:=by
 by_cases hx:xs = []
 ·have:L = []:=List.length_eq_zero_iff.1 (by rw [h.len,hx]; simp)
  rw [this]; exact Lies.nil _ _
 ·obtain ⟨b,o,rfl,hbb,hc⟩:=hs hx
  exact Lies.mk fun j u hj=>(hb.cell (p:=⟨b,o+j,none⟩) (hlt b hbb)).trans (hc j u hj)
theorem D.own_ne {a b o n c:Nat} (h:a ≠ b):(some a:Option Nat) ≠ (Value.slice (some ⟨b,o,none⟩) n c).ownBlock:=fun e=>h (by simpa [Value.ownBlock] using e)
theorem bZ {w:World} {b o:Nat} {cs:Array Value} {u:Value} {t:TypeId} (h:w.heap[b]? = some (.cells cs t (0,0))):(w.setCell ⟨b,o,none⟩ u).heap[b]? = some (.cells (cs.setIfInBounds o u) t (0,0)):=by
 have hlt:=lt_of_block h;have h':w.heap[b]=.cells cs t (0,0):=by simpa [Array.getElem?_eq_getElem hlt] using h
 show (w.heap.modify b _)[b]? = _;rw [Array.getElem?_eq_getElem (by simpa using hlt),Array.getElem_modify_self,h'];rfl
theorem D.O5 {ts:List T} {k i:Nat} (h:i < ts.length):(nY ts k)[i]'(by unfold nY; rw [iF]; exact h)=mkT ts[i] (k+2 * i):=by
 unfold nY;rw [IA h,IC,List.length_take,Nat.min_eq_left (by omega)]
theorem D.uX (ts:List T) (k:Nat):(nY ts k).length=ts.length:=iF ts k
theorem D.uY (ts:List A) (k:Nat):(pI ts k).length=ts.length:=iF ts k
theorem D.O6 {ts:List A} {k i:Nat} (h:i < ts.length):(pI ts k)[i]'(by rw [uY]; exact h)=WC ts[i] (k+bI jf (ts.take i)):=by
 unfold pI;rw [IA h]
theorem D.wY (xs:List A):bI jf xs≤3 * kM xs:=by
 unfold kM
 have:bI jf xs≤xs.length+2 * bI jm xs:=by
  induction xs with
  | nil=>simp [bI]
  | cons x xs ih=>
   simp only [bI,List.map_cons,List.sum_cons,List.length_cons] at *;have:jf x≤1+2 * jm x:=by unfold jf jm; omega
   omega
 omega
theorem D.wZ {α:Type} (f:α→Nat) (hf:∀ x,1≤f x):∀ (xs:List α),xs.length≤bI f xs
 | []=>by simp [bI]
 | x :: xs=>by
  have h1:=wZ f hf xs;have h2:=hf x;simp only [bI,List.map_cons,List.sum_cons,List.length_cons] at *;omega
theorem D.IG (a:A):1≤jf a:=by unfold jf; omega
theorem D.mg {α:Type} (f:α→Nat) (xs:List α) (k:Nat) (h:k < xs.length):bI f (xs.take k)+f xs[k]≤bI f xs:=by
 have:=jG f xs k h;have:=pY f xs (k+1);omega
theorem D.New.sub {B:Nat} {w:World} {bs cs:List Nat} (h:New B w bs) (hn:cs.Nodup) (hs:∀ c ∈ cs,c ∈ bs):New B w cs:=⟨hn,fun b hb=>h.own b (hs b hb)⟩
theorem D.New.mix {B:Nat} {w w':World} {bs cs:List Nat} (h:New B w bs) (hc:New B w' cs) (hk:bU cs w w'):New B w' bs:=
 ⟨h.nodup,fun b hb=>by
  by_cases hm:b ∈ cs
  ·exact hc.own b hm
  ·rw [hk.block b (h.lt hb) hm]; exact h.own b hb⟩
theorem D.New.set {B:Nat} {w:World} {bs:List Nat} (h:New B w bs) (p:Addr) (u:Value):New B (w.setCell p u) bs:=⟨h.nodup,fun b hb=>⟨(h.own b hb).1,KY.setCell (h.VO b hb) p u⟩⟩
theorem D.New.left {B:Nat} {w:World} {b1 b2:List Nat} (h:New B w (b1 ++ b2)):New B w b1:=h.sub (List.nodup_append.1 h.nodup).1 fun c hc=>List.mem_append_left _ hc
theorem D.New.right {B:Nat} {w:World} {b1 b2:List Nat} (h:New B w (b1 ++ b2)):New B w b2:=h.sub (List.nodup_append.1 h.nodup).2.1 fun c hc=>List.mem_append_right _ hc
theorem D.New.parted {B:Nat} {w:World} {b1 b2:List Nat} (h:New B w (b1 ++ b2)):(∀ b ∈ b1,b ∉ b2)∧(∀ b ∈ b2,b ∉ b1):=by
 have:=(List.nodup_append.1 h.nodup).2.2;exact ⟨fun b hb hc=>this b hb b hc rfl,fun b hb hc=>this b hc b hb rfl⟩
def D.WM (p:Pt) (k:Nat):Pt:=⟨decide (k % 3=0),⟨aW (k+1),nY p.atom.args (k+2)⟩⟩
def D.qM (p:Pt):Nat:=2+2 * p.atom.args.length
def D.LP:List Pt→Nat→List Pt:=jO WM qM
theorem D.Rl (p:Pt):1≤qM p:=by unfold qM; omega
end Go.Proofs.YtiidmgchadagbaaGreatDoor
