/- Of the proof of FnDeltaNeeds: Kind. -/
import Derived.Deep.AppendLies
import Derived.Lib.IndexBytes
import Derived.Deep.Fields
import Derived.Lib.Hide
import Derived.Laws.EntriesVeiled
import Derived.Deep.RegionHeld3
import Derived.BigQuiet
import Derived.Deep.DrawnRows
import Derived.WalkSpells
import Derived.WalkLawsBesides
import Derived.Laws.CopyOwn
import Derived.OwnWalkIn
import Derived.Test.YtkjinanbccloeaaGreatDoorE00
set_option linter.unusedVariables false
namespace Go.Proofs.YtkjinanbccloeaaGreatDoor
namespace D
open Go.RowKit
def low (c:UInt8):Bool:=(97≤c && c≤122) || (48≤c && c≤57)
def pW (l:List UInt8):Bool:=l.all low
def jc (s:ByteArray):Bool:=decide (1≤s.size) && decide (s.size≤8) && pW s.data.toList && !(s.toList == [110,111,116])
theorem xZ (c:UInt8):low c=false ↔ ((c.toNat:Int) < 97∨122 < (c.toNat:Int))∧((c.toNat:Int) < 48∨57 < (c.toNat:Int)):=by
 unfold low;simp only [Bool.or_eq_false_iff,Bool.and_eq_false_iff,decide_eq_false_iff_not,UInt8.le_iff_toNat_le,Nat.not_le];have I:(97:UInt8).toNat=97:=rfl;have y:(122:UInt8).toNat=122:=rfl;have J:(48:UInt8).toNat=48:=rfl;have U:(57:UInt8).toNat=57:=rfl;rw [I,y,J,U];omega
theorem take_snoc (s:ByteArray) (k:Nat) (h:k < s.size):s.data.toList.take (k+1)=s.data.toList.take k ++ [s[k]]:=by
 rw [ρ (by simpa using h)]; rfl
theorem GR (s:ByteArray) (k:Nat) (h:k < s.size) (h0:pW (s.data.toList.take k)=true):pW (s.data.toList.take (k+1))=low s[k]:=by
 rw [take_snoc s k h]; unfold pW at *; simp [List.all_append,h0]
theorem Ko (s:ByteArray) (k:Nat) (h:k < s.size) (h0:low s[k]=false):pW s.data.toList=false:=by
 unfold pW;rw [List.all_eq_false];exact ⟨s[k],by rw [show s[k]=s.data.toList[k]'(by simpa using h) from rfl]; exact δ _,by simp [h0]⟩
theorem Kq (s:ByteArray):pW (s.data.toList.take s.size)=pW s.data.toList:=by
 rw [ϕ (by simp)]
def big (c:UInt8):Bool:=65≤c && c≤90
def tV (s:ByteArray):Bool:=decide (0 < s.size) && big (s.data.toList.headD 0)
def x9 (s:ByteArray):Bool:=decide (s.size≤8) && tV s && pW s.data.toList.tail
theorem DZ (c:UInt8):big c=true ↔ 65≤(c.toNat:Int)∧(c.toNat:Int)≤90:=by
 unfold big;simp only [ο,decide_eq_true_eq,UInt8.le_iff_toNat_le];have y:(65:UInt8).toNat=65:=rfl;have I:(90:UInt8).toNat=90:=rfl;rw [y,I];omega
theorem Kr (s:ByteArray) (h:0 < s.size):s.data.toList.headD 0=s[0]:=by
 have y:0 < s.data.toList.length:=by simpa using h
 rw [show s[0]=s.data.toList[0]'y from rfl];rw [List.headD_eq_head?_getD,List.head?_eq_getElem?,Ψ y];rfl
theorem Kt (s:ByteArray) (h:0 < s.size):s.toList.isEmpty=false:=by
 rw [ByteArray.toList_eq,List.isEmpty_eq_false_iff];intro e;have:s.data.toList.length=0:=by rw [e]; rfl
 simp at this;have y:s.data.size=0:=by simp [this]
 have:s.size=s.data.size:=rfl;omega
theorem Ul (s:ByteArray) (h:¬ 0 < s.size):s.toList.isEmpty=true:=by
 rw [ByteArray.toList_eq,List.isEmpty_iff,← List.length_eq_zero_iff];have:s.size=s.data.size:=rfl;simp;have:s.data.size=0:=by omega
 simpa using this
theorem Um {s:ByteArray} (h:tV s=true):(1:Int)≤(s.size:Int):=by
 unfold tV at h; simp at h; omega
theorem tail_at (s:ByteArray):(s.extract 1 s.size).data.toList=s.data.toList.tail:=by
 rw [Lib.extract_to_end,List.drop_one]
theorem aH {a b:Bool} (h:a=b):Ending.returned (.bool a)=.returned (.bool b):=by rw [h]
theorem fC {k:IntKind} {a b:Int} (h:a=b):Ending.returned (.int k a)=.returned (.int k b):=by rw [h]
theorem Xa {a b:ByteArray} (h:a=b):Ending.returned (.string a)=.returned (.string b):=by rw [h]
structure T where
 var:Bool
 name:ByteArray
structure A where
 name:ByteArray
 args:List T
structure Pt where
 no:Bool
 atom:A
structure Ru where
 head:A
 body:List Pt
structure Ch where
 comes:List A
 goes:List A
def jv (t:T):Bool:=if t.var then x9 t.name else jc t.name
def aZ (a:A):Bool:=jc a.name && decide (a.args.length≤3) && a.args.all jv
abbrev Rel (α:Type):=World→List Value→α→List Nat→Prop
structure Good {α:Type} (R:Rel α):Prop where
 keep:∀ {w w':World} {cs:List Value} {x:α} {bs:List Nat},R w cs x bs→(∀ b ∈ bs,w'.heap[b]? = w.heap[b]?)→R w' cs x bs
 lt:∀ {w:World} {cs:List Value} {x:α} {bs:List Nat},R w cs x bs→∀ b ∈ bs,b < w.heap.size
theorem Good.below {α:Type} {R:Rel α} (g:Good R) {w w':World} {cs:List Value} {x:α} {bs:List Nat} (h:R w cs x bs) (hb:Below w.heap.size w w'):R w' cs x bs:=
 g.keep h fun b y=>hb.block b (g.lt h b y)
theorem Good.Un {α:Type} {R:Rel α} (g:Good R) {B:Nat} {w w':World} {cs:List Value} {x:α} {bs:List Nat} (h:R w cs x bs) (hb:Below B w w') (hB:∀ b ∈ bs,b < B):R w' cs x bs:=
 g.keep h fun b y=>hb.block b (hB b y)
theorem lt_of_cell {w:World} {p:Addr} {v:Value} (h:w.cell? p=some v):p.block < w.heap.size:=by
 rcases Nat.lt_or_ge p.block w.heap.size with y | y
 ·exact y
 ·simp [World.cell?,Array.getElem?_eq_none y] at h
def kD:Rel T:=fun _ cs t bs=>cs = [.bool t.var,.string t.name]∧t.name.size≤maxLen∧bs = []
def iU {α:Type} (n:Nat) (R:Rel α):Rel (List α):=fun w cs xs bs=>
 ∃ Ad cap,cs = [.slice Ad xs.length cap]∧xs.length≤cap∧cap≤maxLen∧(xs = []→bs = [])∧
  (xs ≠ []→∃ b o,Ad=some ⟨b,o,none⟩∧∃ (F:Nat→List Value) (G:Nat→List Nat),bs=b :: (List.range xs.length).flatMap G∧
   ∀ k x,xs[k]? = some x→(F k).length=n∧(∀ j v,(F k)[j]? = some v→w.cell? ⟨b,o+(k * n+j),none⟩=some v)∧R w (F k) x (G k))
theorem bD:Good kD:=⟨fun h _=>h,fun h b hb=>by obtain ⟨_,_,rfl⟩:=h; simp at hb⟩
theorem iO {α:Type} {n:Nat} {R:Rel α} (g:Good R) (hn:0 < n):Good (iU n R):=by
 refine ⟨fun {w w' cs x bs} h J=>?_,fun {w cs x bs} h c hc=>?_⟩
 ·obtain ⟨Ad,cap,rfl,hl,hm,h0,h1⟩:=h
  refine ⟨Ad,cap,rfl,hl,hm,h0,fun I=>?_⟩;obtain ⟨b,o,rfl,F,G,rfl,hF⟩:=h1 I;refine ⟨b,o,rfl,F,G,rfl,fun k y hy=>?_⟩;obtain ⟨a1,U,a3⟩:=hF k y hy;refine ⟨a1,fun j v hv=>?_,g.keep a3 fun c hc=>J c ?_⟩
  ·rw [World.cell?_of_block (w:=w) (J b (by simp))]; exact U j v hv
  ·have a0:k < x.length:=(List.getElem?_eq_some_iff.1 hy).1
   exact Δ _ (List.mem_flatMap.2 ⟨k,List.mem_range.2 a0,hc⟩)
 ·obtain ⟨Ad,cap,rfl,hl,hm,h0,h1⟩:=h
  by_cases I:x = []
  ·rw [h0 I] at hc; simp at hc
  ·obtain ⟨b,o,rfl,F,G,rfl,hF⟩:=h1 I
   rcases ύ.1 hc with rfl | hc
   ·match x,I with
    | y :: r,_=>
     obtain ⟨a1,U,_⟩:=hF 0 y rfl;have:∃ v,(F 0)[0]? = some v:=⟨_,Ψ (by omega)⟩;obtain ⟨v,hv⟩:=this;exact lt_of_cell (U 0 v hv)
   ·obtain ⟨k,J,a4⟩:=List.mem_flatMap.1 hc
    have a5:=List.mem_range.1 J;obtain ⟨_,_,a3⟩:=hF k x[k] (Ψ a5);exact g.lt a3 c a4
def gG:Rel (List T):=iU 2 kD
def aJ:Rel A:=fun w cs a bs=>∃ s,cs = [.string a.name,s]∧a.name.size≤maxLen∧gG w [s] a.args bs
def aC:Rel (List A):=iU 2 aJ
def qF:Rel Pt:=fun w cs p bs=>∃ s,cs = [.bool p.no,.string p.atom.name,s]∧p.atom.name.size≤maxLen∧gG w [s] p.atom.args bs
def jd:Rel (List Pt):=iU 3 qF
def iy:Rel Ru:=fun w cs r bs=>∃ s b y I,cs = [.string r.head.name,s,b]∧r.head.name.size≤maxLen∧bs=y ++ I∧gG w [s] r.head.args y∧jd w [b] r.body I
def dW:Rel (List Ru):=iU 3 iy
def gK:Rel Ch:=fun w cs c bs=>∃ s b y I,cs = [s,b]∧bs=y ++ I∧aC w [s] c.comes y∧aC w [b] c.goes I
theorem aQ:Good gG:=iO bD (by omega)
theorem ak:Good aJ:=
 ⟨fun h J=>by obtain ⟨s,h1,I,y⟩:=h; exact ⟨s,h1,I,aQ.keep y J⟩,fun h=>by obtain ⟨s,h1,I,y⟩:=h; exact aQ.lt y⟩
theorem au:Good aC:=iO ak (by omega)
theorem jH:Good qF:=
 ⟨fun h J=>by obtain ⟨s,h1,I,y⟩:=h; exact ⟨s,h1,I,aQ.keep y J⟩,fun h=>by obtain ⟨s,h1,I,y⟩:=h; exact aQ.lt y⟩
theorem dN:Good jd:=iO jH (by omega)
theorem GU {α β:Type} {R:Rel α} {S:Rel β} (gR:Good R) (gS:Good S) {w w':World} {c d:List Value} {x:α} {y:β} {I J:List Nat} (h1:R w c x I) (h2:S w d y J)
  (U:∀ b ∈ I ++ J,w'.heap[b]? = w.heap[b]?):R w' c x I∧S w' d y J:=
 ⟨gR.keep h1 fun b hb=>U b (Ξ _ hb),gS.keep h2 fun b hb=>U b (Ω _ hb)⟩
theorem Qk {α β:Type} {R:Rel α} {S:Rel β} (U:Good R) (gS:Good S) {w:World} {c d:List Value} {x:α} {y:β} {I J:List Nat} (h1:R w c x I) (h2:S w d y J):∀ b ∈ I ++ J,b < w.heap.size:=
 fun b hb=>(μ.1 hb).elim (U.lt h1 b) (gS.lt h2 b)
theorem aY:Good iy:=
 ⟨fun h hk=>by obtain ⟨s,b,J,U,h1,h2,rfl,y,I⟩:=h; obtain ⟨y,I⟩:=GU aQ dN y I hk; exact ⟨s,b,J,U,h1,h2,rfl,y,I⟩,
  fun h=>by obtain ⟨s,b,J,U,h1,h2,rfl,y,I⟩:=h; exact Qk aQ dN y I⟩
theorem aS:Good dW:=iO aY (by omega)
theorem fE:Good gK:=
 ⟨fun h hk=>by obtain ⟨s,b,J,U,h1,rfl,y,I⟩:=h; obtain ⟨y,I⟩:=GU au au y I hk; exact ⟨s,b,J,U,h1,rfl,y,I⟩,
  fun h=>by obtain ⟨s,b,J,U,h1,rfl,y,I⟩:=h; exact Qk au au y I⟩
theorem jC {α:Type} {n:Nat} {R:Rel α} {w:World} {Ad:Option Addr} {len cap:Nat} {xs:List α} {bs:List Nat} (h:iU n R w [.slice Ad len cap] xs bs) {k:Nat} (I:k < xs.length):
  ∃ b o cs J,Ad=some ⟨b,o,none⟩∧b ∈ bs∧cs.length=n∧(∀ j v,cs[j]? = some v→w.cell? ⟨b,o+(k * n+j),none⟩=some v)∧R w cs xs[k] J∧(∀ c ∈ J,c ∈ bs):=by
 obtain ⟨a0,U,y,hl,hm,h0,h1⟩:=h;simp only [List.cons.injEq,Value.slice.injEq,and_true] at y;obtain ⟨rfl,rfl,rfl⟩:=y;obtain ⟨b,o,rfl,F,G,rfl,hF⟩:=h1 (by intro e; subst e; simp at I);obtain ⟨a1,a2,a3⟩:=hF k _ (Ψ I);exact ⟨b,o,F k,G k,rfl,by simp,a1,a2,a3,fun c hc=>Δ _ (List.mem_flatMap.2 ⟨k,List.mem_range.2 I,hc⟩)⟩
theorem aj {α:Type} {n:Nat} {R:Rel α} {w:World} {v:Value} {xs:List α} {bs:List Nat} (h:iU n R w [v] xs bs):
  ∃ Ad cap,v=.slice Ad xs.length cap∧xs.length≤cap∧cap≤maxLen:=by
 obtain ⟨Ad,cap,y,I,hm,_⟩:=h;exact ⟨Ad,cap,by simpa using y,I,hm⟩
section
variable {w:World} {Ad:Option Addr} {len cap:Nat} {bs:List Nat} {k:Nat}
theorem fJ {xs:List T} (h:gG w [.slice Ad len cap] xs bs) (J:k < xs.length):
  ∃ b o,Ad=some ⟨b,o,none⟩∧b ∈ bs∧w.cell? ⟨b,o+k * 2,none⟩=some (.bool xs[k].var)∧w.cell? ⟨b,o+k * 2+1,none⟩=some (.string xs[k].name)∧xs[k].name.size≤maxLen:=by
 obtain ⟨b,o,cs,bk,rfl,hb,U,y,⟨rfl,I,_⟩,_⟩:=jC h J;exact ⟨b,o,rfl,hb,by simpa using y 0 _ rfl,by simpa [Nat.add_assoc] using y 1 _ rfl,I⟩
theorem Uo {xs:List A} (h:aC w [.slice Ad len cap] xs bs) (hk:k < xs.length):
  ∃ b o s I,Ad=some ⟨b,o,none⟩∧b ∈ bs∧w.cell? ⟨b,o+k * 2,none⟩=some (.string xs[k].name)∧w.cell? ⟨b,o+k * 2+1,none⟩=some s∧xs[k].name.size≤maxLen∧gG w [s] xs[k].args I∧∀ c ∈ I,c ∈ bs:=by
 obtain ⟨b,o,cs,I,rfl,hb,a0,y,⟨s,rfl,J,ht⟩,U⟩:=jC h hk;exact ⟨b,o,s,I,rfl,hb,by simpa using y 0 _ rfl,by simpa [Nat.add_assoc] using y 1 _ rfl,J,ht,U⟩
theorem Ur {xs:List Pt} (h:jd w [.slice Ad len cap] xs bs) (hk:k < xs.length):
  ∃ b o s I,Ad=some ⟨b,o,none⟩∧b ∈ bs∧w.cell? ⟨b,o+k * 3,none⟩=some (.bool xs[k].no)∧w.cell? ⟨b,o+k * 3+1,none⟩=some (.string xs[k].atom.name)∧w.cell? ⟨b,o+k * 3+2,none⟩=some s∧xs[k].atom.name.size≤maxLen∧
   gG w [s] xs[k].atom.args I∧∀ c ∈ I,c ∈ bs:=by
 obtain ⟨b,o,cs,I,rfl,hb,a0,y,⟨s,rfl,J,ht⟩,U⟩:=jC h hk;exact ⟨b,o,s,I,rfl,hb,by simpa using y 0 _ rfl,by simpa [Nat.add_assoc] using y 1 _ rfl,by simpa [Nat.add_assoc] using y 2 _ rfl,J,ht,U⟩
theorem Us {xs:List Ru} (h:dW w [.slice Ad len cap] xs bs) (hk:k < xs.length):
  ∃ b o s q J U,Ad=some ⟨b,o,none⟩∧b ∈ bs∧w.cell? ⟨b,o+k * 3,none⟩=some (.string xs[k].head.name)∧w.cell? ⟨b,o+k * 3+1,none⟩=some s∧w.cell? ⟨b,o+k * 3+2,none⟩=some q∧xs[k].head.name.size≤maxLen∧
   gG w [s] xs[k].head.args J∧jd w [q] xs[k].body U∧(∀ c ∈ J,c ∈ bs)∧∀ c ∈ U,c ∈ bs:=by
 obtain ⟨b,o,cs,a1,rfl,hb,a2,y,⟨s,q,J,U,rfl,a0,rfl,ht,hp⟩,I⟩:=jC h hk;exact ⟨b,o,s,q,J,U,rfl,hb,by simpa using y 0 _ rfl,by simpa [Nat.add_assoc] using y 1 _ rfl,by simpa [Nat.add_assoc] using y 2 _ rfl,a0,ht,hp,fun c hc=>I c (Ξ _ hc),fun c hc=>I c (Ω _ hc)⟩
end
def jI:Rel ByteArray:=fun _ cs s bs=>cs = [.string s]∧s.size≤maxLen∧bs = []
theorem aK:Good jI:=⟨fun h _=>h,fun h b hb=>by obtain ⟨_,_,rfl⟩:=h; simp at hb⟩
def iF:Rel (List ByteArray):=iU 1 jI
theorem bP:Good iF:=iO aK (by omega)
def Ut:Rel UInt8:=fun _ cs c bs=>cs = [.int .u8 c.toNat]∧bs = []
theorem Ou:Good Ut:=⟨fun h _=>h,fun h b hb=>by obtain ⟨_,rfl⟩:=h; simp at hb⟩
def uj:Rel (List UInt8):=iU 1 Ut
theorem BU:Good uj:=iO Ou (by omega)
theorem nD {w:World} {Ad:Option Addr} {len cap k:Nat} {bs:List Nat} {xs:List ByteArray} (h:iF w [.slice Ad len cap] xs bs) (J:k < xs.length):
  ∃ b o,Ad=some ⟨b,o,none⟩∧b ∈ bs∧w.cell? ⟨b,o+k,none⟩=some (.string xs[k])∧xs[k].size≤maxLen:=by
 obtain ⟨b,o,cs,bk,rfl,hb,U,y,⟨rfl,I,_⟩,_⟩:=jC h J;exact ⟨b,o,rfl,hb,by simpa using y 0 _ rfl,I⟩
theorem bytes_at {w:World} {Ad:Option Addr} {len cap k:Nat} {bs:List Nat} {xs:List UInt8} (h:uj w [.slice Ad len cap] xs bs) (I:k < xs.length):
  ∃ b o,Ad=some ⟨b,o,none⟩∧b ∈ bs∧w.cell? ⟨b,o+k,none⟩=some (.int .u8 xs[k].toNat):=by
 obtain ⟨b,o,cs,U,rfl,hb,J,y,⟨rfl,_⟩,_⟩:=jC h I;exact ⟨b,o,rfl,hb,by simpa using y 0 _ rfl⟩
theorem wJ {w:World} {g cap:Nat} {e:TypeId} {cs:List ByteArray} (h:w.heap[g]? = some (.cells (cs.map Value.string).toArray e (0,0))) (hc:cs.length≤cap) (hm:cap≤maxLen) (U:∀ s ∈ cs,s.size≤maxLen):
  iF w [.slice (some ⟨g,0,none⟩) cs.length cap] cs (if cs = [] then [] else [g]):=by
 refine ⟨_,cap,rfl,hc,hm,fun h=>by simp [h],fun y=>⟨g,0,rfl,fun k=>[.string (cs.getD k ByteArray.empty)],fun _=>[],by simp [y],fun k x J=>⟨rfl,fun j v hv=>?_,?_⟩⟩⟩
 ·obtain ⟨hj,rfl⟩:=List.getElem?_eq_some_iff.1 hv
  have I:j=0:=by simpa using hj
  subst I;rw [cell_of_row w g _ _ e (0,0) h];simp [J]
 ·obtain ⟨hk,rfl⟩:=List.getElem?_eq_some_iff.1 J
  exact ⟨by simp [hk],U _ (δ _),rfl⟩
structure New (B:Nat) (w:World) (bs:List Nat):Prop where
 nodup:bs.Nodup
 own:∀ b ∈ bs,B≤b∧∃ cur e,w.heap[b]? = some (.cells cur e (0,0))
theorem New.nil (B:Nat) (w:World):New B w []:=⟨List.nodup_nil,fun b hb=>by simp at hb⟩
theorem New.lt {B:Nat} {w:World} {bs:List Nat} (h:New B w bs) {b:Nat} (hb:b ∈ bs):b < w.heap.size:=by
 obtain ⟨_,y,e,he⟩:=h.own b hb;exact ψ he
theorem New.keep {B:Nat} {w w':World} {bs:List Nat} (h:New B w bs) (y:∀ b ∈ bs,w'.heap[b]? = w.heap[b]?):New B w' bs:=
 ⟨h.nodup,fun b hb=>⟨(h.own b hb).1,by rw [y b hb]; exact (h.own b hb).2⟩⟩
theorem New.below {B:Nat} {w w':World} {bs:List Nat} (h:New B w bs) (hb:Below w.heap.size w w'):New B w' bs:=
 h.keep fun b y=>hb.block b (h.lt y)
theorem New.mono {B y:Nat} {w:World} {bs:List Nat} (h:New B w bs) (hB:y≤B):New y w bs:=⟨h.nodup,fun b hb=>⟨τ hB (h.own b hb).1,(h.own b hb).2⟩⟩
theorem New.append {B C:Nat} {w:World} {I b2:List Nat} (h1:New B w I) (y:New C w b2) (J:B≤C) (U:∀ b ∈ I,b < C):New B w (I ++ b2):=by
 refine ⟨List.nodup_append.2 ⟨h1.nodup,y.nodup,fun a ha b hb e=>?_⟩,fun b hb=>?_⟩
 ·subst e; have:=U a ha; have:=(y.own a hb).1; omega
 ·rcases μ.1 hb with hb | hb
  ·exact h1.own b hb
  ·exact ⟨τ J (y.own b hb).1,(y.own b hb).2⟩
theorem own_below {w w':World} {base e size n:Nat} {v:Value} {L:List Value} (h:w.ownsRow base e size v n L) (hb:Below w.heap.size w w'):w'.ownsRow base e size v n L:=by
 refine ⟨h.1,h.2.imp id ?_⟩;rintro ⟨g,cap,y,hv,J,I,r⟩;exact ⟨g,cap,y,hv,J,by rw [hb.block g (ψ I)]; exact I,r⟩
theorem Ku {w:World} {base e size n g cap:Nat} {L:List Value} (h:w.ownsRow base e size (.slice (some ⟨g,0,none⟩) n cap) n L) {j:Nat} (y:j < n * size):
  (∃ u,w.cell? ⟨g,j,none⟩=some u)∧w.frozen? ⟨g,j,none⟩=false:=
 ⟨⟨_,(h.cellAt j y).trans (Ψ (by have:=h.1; omega))⟩,h.frozenAt j⟩
structure lD {α:Type} (n:Nat) (R:Rel α) (C:Nat) (w:World) (L:List Value) (xs:List α) (k:Nat) (bs:List Nat):Prop where
 new:New C w bs
 at_:∃ G:Nat→List Nat,bs=(List.range k).flatMap G∧∀ j (h:j < xs.length),j < k→R w ((L.drop (j * n)).take n) xs[j] (G j)
theorem lD.start {α:Type} {n:Nat} {R:Rel α} {C:Nat} {w:World} {L:List Value} {xs:List α}:lD n R C w L xs 0 []:=
 ⟨New.nil _ _,fun _=>[],rfl,fun j _ y=>by omega⟩
theorem lD.keep {α:Type} {n:Nat} {R:Rel α} (g:Good R) {C:Nat} {w w':World} {L:List Value} {xs:List α} {k:Nat} {bs:List Nat} (h:lD n R C w L xs k bs)
  (I:∀ b ∈ bs,w'.heap[b]? = w.heap[b]?):lD n R C w' L xs k bs:=by
 obtain ⟨h1,G,rfl,J⟩:=h;exact ⟨h1.keep I,G,rfl,fun j U y=>g.keep (J j U y) fun b hb=>I b (List.mem_flatMap.2 ⟨j,List.mem_range.2 y,hb⟩)⟩
theorem lD.step {α:Type} {n:Nat} {R:Rel α} {C:Nat} {w:World} {L J:List Value} {xs:List α} {k:Nat} {bs y:List Nat} {cs:List Value} (h:lD n R C w L xs k bs)
  (hL:J.take (k * n)=L.take (k * n)) (U:(J.drop (k * n)).take n=cs) (hk:k < xs.length) (hR:R w cs xs[k] y) (hC:∃ D,C≤D∧New D w y∧∀ b ∈ bs,b < D):lD n R C w J xs (k+1) (bs ++ y):=by
 obtain ⟨h1,G,rfl,h2⟩:=h;obtain ⟨D,a0,h3,h4⟩:=hC;refine ⟨h1.append h3 a0 h4,fun j=>if j=k then y else G j,?_,fun j hj a1=>?_⟩
 ·rw [List.range_succ,List.flatMap_append]
  simp only [List.flatMap_cons,List.flatMap_nil,if_true,List.append_nil]
  congr 1
  rw [List.flatMap_def,List.flatMap_def]
  congr 1
  exact List.map_congr_left fun j hj=>by rw [if_neg (by have:=List.mem_range.1 hj; omega)]
 ·by_cases e:j=k
  ·subst e
   show R w _ _ (if j=j then y else G j);rw [if_pos rfl,U];exact hR
  ·show R w _ _ (if j=k then y else G j)
   rw [if_neg e];have I:j < k:=by omega
   have hmul:j * n+n≤k * n:=by
    have:=Nat.mul_le_mul_right n (show j+1≤k by omega);rw [Nat.add_mul,Nat.one_mul] at this; exact this
   have key:∀ M:List Value,(M.drop (j * n)).take n=((M.take (k * n)).drop (j * n)).take n:=by
    intro M;rw [List.drop_take,List.take_take,Nat.min_eq_left (by omega)]
   rw [key J,hL,← key L];exact h2 j hj I
theorem set2 {L:List Value} {k m:Nat} (y:L.length=m * 2) (I:k < m) (a b:Value):
  (((L.set (k * 2) a).set (k * 2+1) b).take (k * 2)=L.take (k * 2))∧(((L.set (k * 2) a).set (k * 2+1) b).drop (k * 2)).take 2 = [a,b]:=by
 constructor
 ·rw [List.take_set_of_le (by omega),List.take_set_of_le (by omega)]
 ·refine List.ext_getElem? fun j=>?_
  rcases j with _ | _ | j
  ·simp [List.getElem?_set,List.getElem?_drop]; omega
  ·simp [List.getElem?_set,List.getElem?_drop]; omega
  ·simp; omega
theorem Ov {w:World} {base e n g cap k:Nat} {L:List Value} (h:w.ownsRow base e 2 (.slice (some ⟨g,0,none⟩) n cap) n L) (a b:Value):
  ((w.setCell ⟨g,k * 2,none⟩ a).setCell ⟨g,k * 2+1,none⟩ b).ownsRow base e 2 (.slice (some ⟨g,0,none⟩) n cap) n ((L.set (k * 2) a).set (k * 2+1) b):=
 ((h.stored _ _).1.stored _ _).1
theorem YW {α:Type} {R:Rel α} (gR:Good R) {w0 wr I:World} {base B e g cap C k:Nat} {L:List Value} {xs:List α} {bs b2:List Nat} {a b:Value}
  (J:wr.ownsRow base e 2 (.slice (some ⟨g,0,none⟩) xs.length cap) xs.length L) (hF:lD 2 R C wr L xs k bs) (hk:k < xs.length)
  (a2:Below B w0 wr) (hb:Below wr.heap.size wr I) (a3:g < C) (U:B≤g) (hC:C≤wr.heap.size) (hR:R I [a,b] xs[k] b2) (hN:New wr.heap.size I b2):
  ((I.setCell ⟨g,k * 2,none⟩ a).setCell ⟨g,k * 2+1,none⟩ b).ownsRow base e 2 (.slice (some ⟨g,0,none⟩) xs.length cap) xs.length ((L.set (k * 2) a).set (k * 2+1) b)∧
  lD 2 R C ((I.setCell ⟨g,k * 2,none⟩ a).setCell ⟨g,k * 2+1,none⟩ b) ((L.set (k * 2) a).set (k * 2+1) b) xs (k+1) (bs ++ b2)∧
  Below B w0 ((I.setCell ⟨g,k * 2,none⟩ a).setCell ⟨g,k * 2+1,none⟩ b)∧C≤((I.setCell ⟨g,k * 2,none⟩ a).setCell ⟨g,k * 2+1,none⟩ b).heap.size:=by
 have a0:∀ c ∈ bs,c < wr.heap.size:=fun c hc=>hF.new.lt hc
 have a1:∀ c ∈ bs,c ≠ g:=fun c hc e=>by have:=(hF.new.own c hc).1; omega
 have y:∀ c ∈ b2,c ≠ g:=fun c hc e=>by have:=(hN.own c hc).1; omega
 have hs:=set2 J.1 hk a b;refine ⟨Ov (own_below J hb) a b,?_,?_,?_⟩
 ·refine lD.step (hF.keep gR fun c hc=>?_) hs.1 hs.2 hk (gR.keep hR fun c hc=>?_) ⟨wr.heap.size,hC,hN.keep fun c hc=>?_,a0⟩
  ·rw [π _ _ _ _ (a1 c hc),π _ _ _ _ (a1 c hc),hb.block c (a0 c hc)]
  ·rw [π _ _ _ _ (y c hc),π _ _ _ _ (y c hc)]
  ·rw [π _ _ _ _ (y c hc),π _ _ _ _ (y c hc)]
 ·exact ((a2.trans (hb.mono (by omega))).setCell U _).setCell U _
 ·have:=hb.size; simp; omega
theorem lD.slice {α:Type} {n:Nat} {R:Rel α} {C base:Nat} {w:World} {L:List Value} {xs:List α} {bs:List Nat} {e:TypeId} {g cap:Nat} (h:lD n R C w L xs xs.length bs)
  (I:w.ownsRow base e n (.slice (some ⟨g,0,none⟩) xs.length cap) xs.length L) (hg:g ∉ bs):
  ∃ b2,iU n R w [.slice (some ⟨g,0,none⟩) xs.length cap] xs b2∧b2.Nodup∧(∀ b ∈ b2,(b=g∧base≤g)∨b ∈ bs)∧(∀ b ∈ b2,∃ y e,w.heap[b]? = some (.cells y e (0,0))):=by
 obtain ⟨h1,G,a5,h2⟩:=h
 have a0:base≤g∧(∃ y,w.heap[g]? = some (.cells y e (0,0)))∧xs.length≤cap∧cap≤maxLen:=by
  rcases I.2 with ⟨hv,_⟩ | ⟨g',a7,y,hv,hb,hh,J,U,_⟩
  ·simp at hv
  ·simp only [Value.slice.injEq,Option.some.injEq,Addr.mk.injEq,and_true,true_and] at hv
   obtain ⟨rfl,rfl⟩:=hv;exact ⟨hb,⟨y,hh⟩,J,U⟩
 obtain ⟨a1,⟨y,a2⟩,J,U⟩:=a0;by_cases a3:xs = []
 ·subst a3
  exact ⟨[],⟨_,cap,rfl,J,U,fun _=>rfl,fun h=>absurd rfl h⟩,List.nodup_nil,fun b hb=>by simp at hb,fun b hb=>by simp at hb⟩
 ·refine ⟨g :: bs,⟨_,cap,rfl,J,U,fun h=>absurd h a3,fun _=>⟨g,0,rfl,fun k=>(L.drop (k * n)).take n,G,by rw [a5],fun k x hx=>?_⟩⟩,List.nodup_cons.2 ⟨hg,h1.nodup⟩,?_,?_⟩
  ·obtain ⟨a4,rfl⟩:=List.getElem?_eq_some_iff.1 hx
   have hmul:k * n+n≤xs.length * n:=by
    have:=Nat.mul_le_mul_right n (show k+1≤xs.length by omega);rw [Nat.add_mul,Nat.one_mul] at this; exact this
   have hlen:=I.1;refine ⟨by simp; omega,fun j v hv=>?_,h2 k a4 a4⟩
   have a6:j < n:=by
    have:=(List.getElem?_eq_some_iff.1 hv).1;simp at this; omega
   rw [List.getElem?_take_of_lt a6,List.getElem?_drop] at hv;rw [Nat.zero_add,I.cellAt (k * n+j) (by omega)];exact hv
  ·intro b hb
   rcases ύ.1 hb with rfl | hb
   ·exact .inl ⟨rfl,a1⟩
   ·exact .inr hb
  ·intro b hb
   rcases ύ.1 hb with rfl | hb
   ·exact ⟨y,e,a2⟩
   ·exact (h1.own b hb).2
def jW (y:List T):Nat:=(y.map (fun t=>t.name.size)).sum
def Kv (a:A):Nat:=a.name.size+a.args.length+jW a.args
theorem Kw (y:List T) (k:Nat) (h:k < y.length):jW (y.take (k+1))=jW (y.take k)+y[k].name.size:=by
 unfold jW; rw [ρ h,List.map_append,List.sum_append]; simp
end D
namespace D
open Go.RowKit
def je {α:Type} (f:α→Nat) (xs:List α):Nat:=(xs.map f).sum
theorem GV {α:Type} (f:α→Nat) (xs:List α) (k:Nat) (h:k < xs.length):je f (xs.take (k+1))=je f (xs.take k)+f xs[k]:=by
 unfold je; rw [ρ h,List.map_append,List.sum_append]; simp
theorem vH {α:Type} (f:α→Nat) (xs:List α) (k:Nat):je f (xs.take k)≤je f xs:=by
 have h:je f xs=je f (xs.take k)+je f (xs.drop k):=by
  conv=>lhs; rw [← List.take_append_drop k xs]
  unfold je;rw [List.map_append,List.sum_append]
 omega
theorem Ql {α:Type} (f:α→Nat) (xs:List α) (k:Nat) (h:k < xs.length):f xs[k]≤je f xs:=by
 have:=GV f xs k h;have:=vH f xs (k+1);omega
section
variable {w:World} {Ad:Option Addr} {len cap:Nat} {bs:List Nat} {k:Nat}
theorem dL {xs:List A} (h:aC w [.slice Ad len cap] xs bs) (hk:k < xs.length):
  ∃ b o y I J,Ad=some ⟨b,o,none⟩∧b ∈ bs∧w.cell? ⟨b,o+k * 2,none⟩=some (.string xs[k].name)∧w.cell? ⟨b,o+k * 2+1,none⟩=some (.slice y xs[k].args.length I)∧
   aJ w [.string xs[k].name,.slice y xs[k].args.length I] xs[k] J∧∀ c ∈ J,c ∈ bs:=by
 obtain ⟨b,o,s,J,rfl,hb,h0,h1,U,ht,a0⟩:=Uo h hk;obtain ⟨y,I,rfl,_⟩:=aj ht;exact ⟨b,o,y,I,J,rfl,hb,h0,h1,⟨_,rfl,U,ht⟩,a0⟩
theorem iV {xs:List Pt} (h:jd w [.slice Ad len cap] xs bs) (hk:k < xs.length):
  ∃ b o y I J,Ad=some ⟨b,o,none⟩∧b ∈ bs∧w.cell? ⟨b,o+k * 3,none⟩=some (.bool xs[k].no)∧w.cell? ⟨b,o+k * 3+1,none⟩=some (.string xs[k].atom.name)∧w.cell? ⟨b,o+k * 3+2,none⟩=some (.slice y xs[k].atom.args.length I)∧
   qF w [.bool xs[k].no,.string xs[k].atom.name,.slice y xs[k].atom.args.length I] xs[k] J∧∀ c ∈ J,c ∈ bs:=by
 obtain ⟨b,o,s,J,rfl,hb,h0,h1,h2,U,ht,a0⟩:=Ur h hk;obtain ⟨y,I,rfl,_⟩:=aj ht;exact ⟨b,o,y,I,J,rfl,hb,h0,h1,h2,⟨_,rfl,U,ht⟩,a0⟩
theorem iI {xs:List Ru} (h:dW w [.slice Ad len cap] xs bs) (hk:k < xs.length):
  ∃ b o I J U cf y,Ad=some ⟨b,o,none⟩∧b ∈ bs∧w.cell? ⟨b,o+k * 3,none⟩=some (.string xs[k].head.name)∧w.cell? ⟨b,o+k * 3+1,none⟩=some (.slice I xs[k].head.args.length J)∧w.cell? ⟨b,o+k * 3+2,none⟩=some (.slice U xs[k].body.length cf)∧
   iy w [.string xs[k].head.name,.slice I xs[k].head.args.length J,.slice U xs[k].body.length cf] xs[k] y∧∀ c ∈ y,c ∈ bs:=by
 obtain ⟨b,o,s,q,y,bq,rfl,hb,h0,h1,h2,a0,ht,hp,a1,a2⟩:=Us h hk;obtain ⟨I,J,rfl,_⟩:=aj ht;obtain ⟨U,cf,rfl,_⟩:=aj hp;exact ⟨b,o,I,J,U,cf,y ++ bq,rfl,hb,h0,h1,h2,⟨_,_,y,bq,rfl,a0,rfl,ht,hp⟩,fun c hc=>(μ.1 hc).elim (a1 c) (a2 c)⟩
end
theorem jD {w:World} {c0 c1 c2:Value} {p:Pt} {bs:List Nat} (h:qF w [c0,c1,c2] p bs):aJ w [c1,c2] p.atom bs:=by
 obtain ⟨s,y,hn,I⟩:=h;simp only [List.cons.injEq,and_true] at y;obtain ⟨_,rfl,rfl⟩:=y;exact ⟨_,rfl,hn,I⟩
theorem pY {w:World} {c0 c1 c2:Value} {r:Ru} {bs:List Nat} (h:iy w [c0,c1,c2] r bs):∃ Ad cap J y,c0=.string r.head.name∧c1=.slice Ad r.head.args.length cap∧c2=.slice J r.body.length y:=by
 obtain ⟨s,b,_,_,I,_,_,U,hp⟩:=h;obtain ⟨Ad,cap,rfl,_⟩:=aj U;obtain ⟨J,y,rfl,_⟩:=aj hp;simp only [List.cons.injEq,and_true] at I;exact ⟨Ad,cap,J,y,I⟩
theorem iW {w:World} {c0 c1 c2:Value} {r:Ru} {bs:List Nat} (h:iy w [c0,c1,c2] r bs):∃ I J,bs=I ++ J∧aJ w [c0,c1] r.head I∧jd w [c2] r.body J:=by
 obtain ⟨s,b,I,J,y,hn,rfl,U,hp⟩:=h;simp only [List.cons.injEq,and_true] at y;obtain ⟨rfl,rfl,rfl⟩:=y;exact ⟨I,J,rfl,⟨_,rfl,hn,U⟩,hp⟩
theorem iD {w:World} {c0 c1:Value} {c:Ch} {bs:List Nat} (h:gK w [c0,c1] c bs):∃ Ad cap J y,c0=.slice Ad c.comes.length cap∧c1=.slice J c.goes.length y:=by
 obtain ⟨s,b,_,_,I,_,U,hp⟩:=h;obtain ⟨Ad,cap,rfl,_⟩:=aj U;obtain ⟨J,y,rfl,_⟩:=aj hp;simp only [List.cons.injEq,and_true] at I;exact ⟨Ad,cap,J,y,I⟩
theorem lX {w:World} {cs:Array Value} {c:Ch} {bs:List Nat} (h:gK w cs.toList c bs):∃ Ad cap I y,cs=#[.slice Ad c.comes.length cap,.slice I c.goes.length y]:=by
 obtain ⟨s,b,_,_,J,_,U,hp⟩:=h;obtain ⟨Ad,cap,rfl,_⟩:=aj U;obtain ⟨I,y,rfl,_⟩:=aj hp;exact ⟨Ad,cap,I,y,Array.toList_inj.1 J⟩
theorem gQ {w:World} {c0 c1:Value} {c:Ch} {bs:List Nat} (h:gK w [c0,c1] c bs):∃ I J,bs=I ++ J∧aC w [c0] c.comes I∧aC w [c1] c.goes J:=by
 obtain ⟨s,b,I,J,y,rfl,U,hp⟩:=h;simp only [List.cons.injEq,and_true] at y;obtain ⟨rfl,rfl⟩:=y;exact ⟨I,J,rfl,U,hp⟩
end D
section
open Go.RowKit D
theorem ay {n:Nat} (h:n≤maxLen):(n:Int)≤9223372036854775807:=by unfold maxLen at h; omega
def Makes {α:Type} (R:Rel α) (x:α) (B:Nat) (w:World) (e:Ending) (w':World):Prop:=Below B w w'∧∃ v bs,e=.returned v∧R w' [v] x bs∧New B w' bs
def Uu {α:Type} (R:Rel α) (x:α) (B:Nat) (w:World) (e:Ending) (w':World):Prop:=Below B w w'∧∃ cs bs,e=.returned (.agg cs)∧R w' cs.toList x bs∧New B w' bs
theorem jw {α:Type} {p:α→Bool} (xs:List α) (k:Nat) (h:k < xs.length):(xs.take (k+1)).all p=((xs.take k).all p && p xs[k]):=by
 rw [ρ h,List.all_append]; simp
theorem vI {α:Type} {p:α→Bool} (xs:List α) (k:Nat) (h:k < xs.length) (y:p xs[k]=false):xs.all p=false:=by
 rw [List.all_eq_false]; exact ⟨_,δ h,by simp [y]⟩
theorem wS {w:World} {cs:Array Value} {a:A} {bs:List Nat} (h:aJ w cs.toList a bs):∃ Ad cap,cs=#[.string a.name,.slice Ad a.args.length cap]:=by
 obtain ⟨s,y,_,I⟩:=h;obtain ⟨Ad,cap,rfl,_⟩:=aj I;exact ⟨Ad,cap,Array.toList_inj.1 y⟩
theorem dM {w:World} {c0 c1:Value} {a:A} {bs:List Nat} (h:aJ w [c0,c1] a bs):gG w [c1] a.args bs:=by
 obtain ⟨s,y,_,I⟩:=h;simp only [List.cons.injEq,and_true] at y;rw [y.2]; exact I
theorem bG {w:World} {c0 c1:Value} {a:A} {bs:List Nat} (h:aJ w [c0,c1] a bs):∃ Ad cap,c0=.string a.name∧c1=.slice Ad a.args.length cap:=by
 obtain ⟨s,y,_,I⟩:=h;obtain ⟨Ad,cap,rfl,_⟩:=aj I;simp only [List.cons.injEq,and_true] at y;exact ⟨Ad,cap,y⟩
end
namespace D
structure yc {α:Type} (c:α→α→Int):Prop where
 eq:∀ a b,c a b=0 ↔ a=b
 vals:∀ a b,c a b = -1∨c a b=0∨c a b=1
 anti:∀ a b,c b a = - c a b
 trans:∀ a b d,c a b≤0→c b d≤0→c a d≤0
theorem yc.refl {α:Type} {c:α→α→Int} (h:yc c) (a:α):c a a=0:=(h.eq a a).2 rfl
theorem yc.qc {α:Type} {c:α→α→Int} (h:yc c) {a b d:α} (h1:c a b < 0) (I:c b d≤0):c a d < 0:=by
 have J:=h.trans a b d (by omega) I
 rcases Int.lt_or_eq_of_le J with y | y
 ·exact y
 ·have:=(h.eq a d).1 y
  subst this;have:=h.anti a b;omega
def kP {α:Type} (c:α→α→Int):List α→List α→Int
 | [],[]=>0
 | [],_ :: _=>-1
 | _ :: _,[]=>1
 | a :: as,b :: bs=>if c a b=0 then kP c as bs else c a b
theorem oD {α:Type} {c:α→α→Int} (h:yc c):yc (kP c):=by
 refine ⟨fun l=>?_,fun l=>?_,fun l=>?_,fun l=>?_⟩
 ·induction l with
  | nil=>intro m; cases m <;> simp [kP]
  | cons a as ih=>
   intro m
   cases m with
   | nil=>simp [kP]
   | cons b bs=>
    simp only [kP];by_cases hc:c a b=0
    ·rw [if_pos hc,ih]
     have:=(h.eq a b).1 hc;subst this;simp
    ·rw [if_neg hc]
     have:a ≠ b:=fun e=>hc ((h.eq a b).2 e)
     simp [hc,this]
 ·induction l with
  | nil=>intro m; cases m <;> simp [kP]
  | cons a as ih=>
   intro m
   cases m with
   | nil=>simp [kP]
   | cons b bs=>
    simp only [kP]
    split
    ·exact ih bs
    ·exact h.vals a b
 ·induction l with
  | nil=>intro m; cases m <;> simp [kP]
  | cons a as ih=>
   intro m
   cases m with
   | nil=>simp [kP]
   | cons b bs=>
    simp only [kP];have ha:=h.anti a b;by_cases hc:c a b=0
    ·rw [if_pos hc,if_pos (by omega)]; exact ih bs
    ·rw [if_neg hc,if_neg (by omega)]; exact ha
 ·induction l with
  | nil=>
   intro m n h1 I
   cases n with
   | nil=>simp [kP]
   | cons d ds=>simp [kP]
  | cons a as ih=>
   intro m n h1 I
   cases m with
   | nil=>simp [kP] at h1
   | cons b bs=>
    cases n with
    | nil=>simp [kP] at I
    | cons d ds=>
     simp only [kP] at *;by_cases J:c a b=0
     ·have:=(h.eq a b).1 J
      subst this;rw [if_pos J] at h1;by_cases y:c a d=0
      ·rw [if_pos y] at I ⊢
       exact ih bs ds h1 I
      ·rw [if_neg y] at I ⊢
       exact I
     ·rw [if_neg J] at h1
      have U:c b d≤0:=by
       by_cases y:c b d=0
       ·omega
       ·rw [if_neg y] at I; exact I
      have a0:c a b < 0:=by omega
      have:=h.qc a0 U;rw [if_neg (by omega)];omega
def um (a b:UInt8):Int:=if a < b then -1 else if b < a then 1 else 0
theorem D5:yc um:=by
 refine ⟨fun a b=>?_,fun a b=>?_,fun a b=>?_,fun a b d=>?_⟩
 all_goals simp only [um,UInt8.lt_iff_toNat_lt,← UInt8.toNat_inj]
 ·split <;> try split
  all_goals simp; omega
 ·split <;> try split
  all_goals simp
 ·by_cases h1:a.toNat < b.toNat
  ·simp [h1,show ¬ b.toNat < a.toNat by omega]
  ·by_cases y:b.toNat < a.toNat
   ·simp [h1,y]
   ·simp [h1,y]
 ·intro h1 y
  have I:¬ b.toNat < a.toNat:=by
   intro g;rw [if_neg (by omega),if_pos g] at h1;omega
  have J:¬ d.toNat < b.toNat:=by
   intro g;rw [if_neg (by omega),if_pos g] at y;omega
  split
  ·omega
  ·rw [if_neg (by omega)]; omega
theorem zG (l m:List UInt8):Lib.compareBytes l m=kP um l m:=by
 induction l generalizing m with
 | nil=>cases m <;> rfl
 | cons a as ih=>
  cases m with
  | nil=>rfl
  | cons b bs=>
   simp only [Lib.compareBytes,kP,um,ih]
   split
   ·simp
   ·split <;> simp
theorem Uw (l m:List UInt8):Op.bytesLess l m=true ↔ kP um l m < 0:=by
 induction l generalizing m with
 | nil=>cases m <;> simp [Op.bytesLess,kP]
 | cons a as ih=>
  cases m with
  | nil=>simp [Op.bytesLess,kP]
  | cons b bs=>
   simp only [Op.bytesLess,kP,Bool.or_eq_true,ο,decide_eq_true_eq,beq_iff_eq,ih];have hv:=D5.eq a b;by_cases h0:um a b=0
   ·have:=hv.1 h0
    subst this;rw [if_pos h0];have:¬ a < a:=by rw [UInt8.lt_iff_toNat_lt]; omega
    simp [this]
   ·rw [if_neg h0]
    have y:a ≠ b:=fun e=>h0 (hv.2 e)
    unfold um;by_cases I:a < b
    ·simp [I]
    ·simp only [I,y,false_and,or_false,if_false,false_iff]
     split <;> omega
def gJ (a b:ByteArray):Int:=kP um a.data.toList b.data.toList
theorem iL:yc gJ:=by
 have h:=oD D5;refine ⟨fun a b=>?_,fun a b=>h.vals _ _,fun a b=>h.anti _ _,fun a b d=>h.trans _ _ _⟩;unfold gJ;rw [h.eq];exact ⟨fun e=>WideShapes.bytes_inj e,fun e=>by rw [e]⟩
theorem vJ (a b:ByteArray):Op.bytesLess a.toList b.toList=decide (gJ a b < 0):=by
 rw [ByteArray.toList_eq,ByteArray.toList_eq,Bool.eq_iff_iff,Uw,decide_eq_true_eq]; rfl
theorem D6 (a b:ByteArray):(a.toList == b.toList)=decide (gJ a b=0):=by
 rw [ByteArray.toList_eq,ByteArray.toList_eq,Bool.eq_iff_iff];simp only [beq_iff_eq,decide_eq_true_eq,iL.eq];exact ⟨fun e=>WideShapes.bytes_inj e,fun e=>by rw [e]⟩
theorem Jb (a b:ByteArray):Lib.compareBytes a.data.toList b.data.toList=gJ a b:=zG _ _
def lY:List T→List T→Int
 | [],[]=>0
 | [],_ :: _=>-1
 | _ :: _,[]=>1
 | a :: as,b :: bs=>if gJ a.name b.name=0 then lY as bs else gJ a.name b.name
theorem QU (l m:List T):lY l m=kP gJ (l.map (·.name)) (m.map (·.name)):=by
 induction l generalizing m with
 | nil=>cases m <;> rfl
 | cons a as ih=>cases m with
  | nil=>rfl
  | cons b bs=>simp only [lY,List.map_cons,kP,ih]
def bV (a b:A):Int:=if gJ a.name b.name=0 then lY a.args b.args else gJ a.name b.name
def tX (a:A):List ByteArray:=a.name :: a.args.map (·.name)
theorem jQ (a b:A):bV a b=kP gJ (tX a) (tX b):=by
 unfold bV tX;simp only [kP,QU]
end D
section
open Go.RowKit D
namespace D
section
def kU (y:List T):Bool:=y.any (·.var)
def dI (a:A):Bool:=aZ a && !kU a.args
def gm:List A→Bool
 | []=>true
 | [_]=>true
 | a :: b :: r=>decide (bV a b < 0) && gm (b :: r)
theorem yg (xs:List A):gm xs=true ↔ ∀ i (h:i+1 < xs.length),bV xs[i] xs[i+1] < 0:=by
 induction xs with
 | nil=>simp [gm]
 | cons a r ih=>
  cases r with
  | nil=>simp [gm]
  | cons b r=>
   simp only [gm,ο,decide_eq_true_eq,ih];constructor
   ·rintro ⟨h1,I⟩ i y
    cases i with
    | zero=>exact h1
    | succ i=>exact I i (by simp at y ⊢; omega)
   ·intro h
    exact ⟨h 0 (by simp),fun i y=>h (i+1) (by simp at y ⊢; omega)⟩
theorem Xb (xs:List A) (k:Nat) (h:k+1 < xs.length) (hc:¬ bV xs[k] xs[k+1] < 0):gm xs=false:=by
 rw [Bool.eq_false_iff];intro ha;exact hc ((yg xs).1 ha k h)
def aU (xs:List A):Bool:=decide (xs.length≤300) && xs.all dI && gm xs
theorem Ed (y:List T) (k:Nat) (h:k < y.length) (hv:y[k].var=true):kU y=true:=by
 unfold kU; rw [List.any_eq_true]; exact ⟨_,δ h,hv⟩
theorem BV (y:List T) (k:Nat) (h:k < y.length):kU (y.take (k+1))=(kU (y.take k) || y[k].var):=by
 unfold kU; rw [ρ h,List.any_append]; simp
end
section
def okB (xs:List A):Bool:=xs.all dI && gm xs
def QV (xs:List A) (k:Nat):Prop:=∀ j (h:j < xs.length),j < k→dI xs[j]=true∧(∀ y:0 < j,bV (xs[j - 1]'(by omega)) xs[j] < 0)
def Ky (xs:List A) (k:Nat):Prop:=∀ j (h:j < xs.length),j < k→dI xs[j]=true
def Ee (xs:List A) (k:Nat):Prop:=∀ j (h:j < xs.length),j < k→∀ y:0 < j,bV (xs[j - 1]'(by omega)) xs[j] < 0
theorem QW (xs:List A):QV xs 0:=fun _ _ h=>absurd h (Nat.not_lt_zero _)
theorem Ox (xs:List A):Ky xs 0:=fun _ _ h=>absurd h (Nat.not_lt_zero _)
theorem QX (xs:List A):Ee xs 1:=fun j _ h y=>by omega
theorem Ux {xs:List A} (h0:0 < xs.length) (h:dI xs[0]=true):QV xs 1:=fun j I J=>by
 have:j=0:=by omega
 subst this;exact ⟨h,fun y=>absurd y (Nat.lt_irrefl _)⟩
theorem QY {xs:List A} {k:Nat} (H:QV xs (k+1)) (J:k+1 < xs.length) (h:dI xs[k+1]=true) (hc:bV xs[k] xs[k+1] < 0):QV xs (k+1+1):=fun j y I=>by
 by_cases e:j=k+1
 ·subst e; exact ⟨h,fun _=>hc⟩
 ·exact H j y (by omega)
theorem Oy {xs:List A} {k:Nat} (H:Ky xs k) (J:k < xs.length) (h:dI xs[k]=true):Ky xs (k+1):=fun j y I=>by
 by_cases e:j=k
 ·subst e; exact h
 ·exact H j y (by omega)
theorem Oz {xs:List A} {k:Nat} (H:Ee xs (k+1)) (J:k+1 < xs.length) (hc:bV xs[k] xs[k+1] < 0):Ee xs (k+1+1):=fun j y I=>by
 by_cases e:j=k+1
 ·subst e; exact fun _=>hc
 ·exact H j y (by omega)
theorem Jc (xs:List A):okB xs=true ↔ Ky xs xs.length∧Ee xs xs.length:=by
 unfold okB;rw [ο,ό,yg];constructor
 ·rintro ⟨h1,I⟩
  refine ⟨fun j y _=>h1 _ (δ y),fun j y _ h0=>?_⟩;obtain ⟨i,rfl⟩:∃ i,j=i+1:=⟨j - 1,by omega⟩;exact I i y
 ·rintro ⟨h1,I⟩
  refine ⟨fun x U=>?_,fun i J=>I (i+1) J J (by omega)⟩;obtain ⟨j,y,rfl⟩:=List.mem_iff_getElem.1 U;exact h1 j y y
theorem Xc {xs:List A} (H:QV xs xs.length):okB xs=true:=(Jc xs).2 ⟨fun j y I=>(H j y I).1,fun j y I=>(H j y I).2⟩
theorem Qm {xs:List A} {k:Nat} (y:k < xs.length) (h:dI xs[k]=false):okB xs=false:=by
 rw [Bool.eq_false_iff]; intro ha
 have:=((Jc xs).1 ha).1 k y y;rw [h] at this; cases this
theorem Uy {xs:List A} {k:Nat} (y:k+1 < xs.length) (h:¬ bV xs[k] xs[k+1] < 0):okB xs=false:=by
 rw [Bool.eq_false_iff]; intro ha
 exact h (((Jc xs).1 ha).2 (k+1) y y (by omega))
theorem Xd {xs:List A} (H:Ee xs xs.length):gm xs=true:=(yg xs).2 fun i y=>H (i+1) y y (by omega)
theorem rF (xs:List A):aU xs=(okB xs && decide (xs.length≤300)):=by
 unfold aU okB; cases decide (xs.length≤300) <;> simp
variable {w:World} {Ad:Option Addr} {len cap:Nat} {bs:List Nat} {k:Nat}
theorem GX {xs:List A} {j:Nat} (h:aC w [.slice Ad len cap] xs bs) (hj:j < xs.length) (hk:k < xs.length):
  ∃ b o I J bk U cf bm,Ad=some ⟨b,o,none⟩∧
   w.cell? ⟨b,o+j * 2,none⟩=some (.string xs[j].name)∧w.cell? ⟨b,o+j * 2+1,none⟩=some (.slice I xs[j].args.length J)∧aJ w [.string xs[j].name,.slice I xs[j].args.length J] xs[j] bk∧
   w.cell? ⟨b,o+k * 2,none⟩=some (.string xs[k].name)∧w.cell? ⟨b,o+k * 2+1,none⟩=some (.slice U xs[k].args.length cf)∧aJ w [.string xs[k].name,.slice U xs[k].args.length cf] xs[k] bm:=by
 obtain ⟨b,o,I,J,bk,rfl,_,c0,c1,a0,_⟩:=dL h hj;obtain ⟨b',o',U,cf,bm,e,_,d0,d1,y,_⟩:=dL h hk;cases e;exact ⟨b,o,I,J,bk,U,cf,bm,rfl,c0,c1,a0,d0,d1,y⟩
end
section
theorem iY {a b d:A} (h1:bV a b < 0) (y:bV b d≤0):bV a d < 0:=by
 rw [jQ] at *;exact (oD iL).qc h1 y
theorem Jd {xs:List A} (y:gm xs=true) {i j:Nat} (I:j < xs.length) (J:i < j):bV (xs[i]'(by omega)) xs[j] < 0:=by
 induction j with
 | zero=>omega
 | succ j ih=>
  have h1:=(yg xs).1 y j I;by_cases e:i=j
  ·subst e; exact h1
  ·exact iY (ih (by omega) (by omega)) (by omega)
def GY (a x:A):Bool:=decide (bV x a < 0)
def pl (xs:List A) (a:A):Nat:=xs.countP (GY a)
def hasB (xs:List A) (a:A):Bool:=xs.any (fun x=>decide (bV x a=0))
def OA (xs:List A) (a:A) (k:Nat):Prop:=∀ j (h:j < xs.length),j < k→bV xs[j] a < 0
theorem QZ (xs:List A) (a:A):OA xs a 0:=fun _ _ h=>absurd h (Nat.not_lt_zero _)
theorem Q7 {xs:List A} {a:A} {k:Nat} (H:OA xs a k) (J:k < xs.length) (h:bV xs[k] a < 0):OA xs a (k+1):=fun j y I=>by
 by_cases e:j=k
 ·subst e; exact h
 ·exact H j y (by omega)
theorem Kz {xs:List A} {a:A} {k:Nat} (y:gm xs=true) (U:k < xs.length) (h:¬ bV xs[k] a < 0) {j:Nat} (I:j < xs.length) (J:k≤j):¬ bV xs[j] a < 0:=fun hc=>by
 by_cases e:k=j
 ·subst e; exact h hc
 ·exact h (iY (Jd y I (by omega)) (by omega))
theorem KA {xs:List A} {a:A} {k:Nat} (U:gm xs=true) (hk:k≤xs.length) (h1:OA xs a k) (h2:∀ h:k < xs.length,¬ bV xs[k] a < 0):k=pl xs a:=by
 unfold pl
 conv=>rhs; rw [← List.take_append_drop k xs]
 rw [List.countP_append,List.countP_eq_length.2,List.countP_eq_zero.2]
 ·simp; omega
 ·intro y I
  obtain ⟨j,J,rfl⟩:=List.mem_iff_getElem.1 I;rw [List.length_drop] at J;rw [List.getElem_drop];have:=Kz U (by omega) (h2 (by omega)) (j:=k+j) (by omega) (by omega);simp [GY]; omega
 ·intro y I
  obtain ⟨j,J,rfl⟩:=List.mem_iff_getElem.1 I;rw [List.length_take] at J;rw [List.getElem_take];simp only [GY,decide_eq_true_eq];exact h1 j (by omega) (by omega)
theorem Ye {xs:List A} {a:A} {k:Nat} (U:gm xs=true) (hk:k < xs.length) (h1:OA xs a k) (h2:¬ bV xs[k] a < 0):hasB xs a=decide (bV xs[k] a=0):=by
 by_cases hc:bV xs[k] a=0
 ·rw [decide_eq_true hc]; unfold hasB; rw [List.any_eq_true]; exact ⟨_,δ hk,by simpa using hc⟩
 ·rw [decide_eq_false hc]; unfold hasB; rw [List.any_eq_false]
  intro y hy I;obtain ⟨j,J,rfl⟩:=List.mem_iff_getElem.1 hy;simp only [decide_eq_true_eq] at I
  rcases Nat.lt_trichotomy j k with h | h | h
  ·have:=h1 j J h; omega
  ·subst h; exact hc I
  ·exact h2 (iY (Jd U J h) (by omega))
theorem Xe {xs:List A} {a:A} (h1:OA xs a xs.length):hasB xs a=false:=by
 unfold hasB; rw [List.any_eq_false]
 intro y U I;obtain ⟨j,J,rfl⟩:=List.mem_iff_getElem.1 U;simp only [decide_eq_true_eq] at I;have:=h1 j J J; omega
end
section
theorem dV {xs:List A} (h:aU xs=true):gm xs=true:=by
 unfold aU at h; simp only [ο] at h; exact h.2
theorem iP {xs:List A} (h:aU xs=true):xs.length≤300:=by
 unfold aU at h; simp only [ο,decide_eq_true_eq] at h; exact h.1.1
theorem gU {xs:List A} (h:aU xs=true):∀ x ∈ xs,dI x=true:=by
 unfold aU at h; simp only [ο,ό] at h; exact h.1.2
end
section
def meets (xs ys:List A):Bool:=xs.any (hasB ys)
def fK (c:Ch):Bool:=aU c.comes && aU c.goes && !meets c.comes c.goes
theorem Q8 {xs ys:List A} {k:Nat} (y:k < xs.length) (h:hasB ys xs[k]=true):meets xs ys=true:=by
 unfold meets; rw [List.any_eq_true]; exact ⟨_,δ y,h⟩
theorem OB {xs ys:List A} {k:Nat} (y:k < xs.length):meets (xs.take (k+1)) ys=(meets (xs.take k) ys || hasB ys xs[k]):=by
 unfold meets; rw [ρ y,List.any_append]; simp
end
end D
end
section
open Go.RowKit D
namespace D
def bQ:List A→List A→List (A × Nat)
 | [],[]=>[]
 | [],y :: ys=>(y,1) :: bQ [] ys
 | x :: xs,[]=>(x,0) :: bQ xs []
 | x :: xs,y :: ys=>if bV x y < 0 then (x,0) :: bQ xs (y :: ys) else if 0 < bV x y then (y,1) :: bQ (x :: xs) ys else (x,2) :: bQ xs ys
termination_by xs ys=>xs.length+ys.length
theorem mV {x y:A} {xs ys:List A} (h:bV x y < 0):bQ (x :: xs) (y :: ys)=(x,0) :: bQ xs (y :: ys):=by rw [bQ,if_pos h]
theorem mW {x y:A} {xs ys:List A} (h:0 < bV x y):bQ (x :: xs) (y :: ys)=(y,1) :: bQ (x :: xs) ys:=by rw [bQ,if_neg (by omega),if_pos h]
theorem mX {x y:A} {xs ys:List A} (h1:¬ bV x y < 0) (I:¬ 0 < bV x y):bQ (x :: xs) (y :: ys)=(x,2) :: bQ xs ys:=by rw [bQ,if_neg h1,if_neg I]
theorem lJ (a b:A):bV b a = - bV a b:=by rw [jQ,jQ]; exact (oD iL).anti _ _
theorem fM {x:A} {xs:List A} (h:gm (x :: xs)=true):∀ y ∈ xs,bV x y < 0:=by
 intro y I;obtain ⟨j,J,rfl⟩:=List.mem_iff_getElem.1 I;exact Jd h (i:=0) (j:=j+1) (by simp; omega) (by omega)
theorem eu {x:A} {xs:List A} (h:gm (x :: xs)=true):gm xs=true:=by
 cases xs with
 | nil=>rfl
 | cons y ys=>simp only [gm,ο] at h; exact h.2
theorem yh {ys:List A} {x:A} (h:∀ y ∈ ys,bV x y < 0):hasB ys x=false:=by
 unfold hasB; rw [List.any_eq_false]
 intro y I hc;have:=h y I;simp only [decide_eq_true_eq] at hc;rw [lJ y x] at this;omega
theorem GZ (xs:List A):meets xs []=false:=by
 unfold meets; rw [List.any_eq_false]; intro x _; simp [hasB]
theorem KC:∀ (n:Nat) (xs ys:List A),xs.length+ys.length≤n→gm xs=true→gm ys=true→(bQ xs ys).any (fun p=>p.2 == 2)=meets xs ys:=by
 intro n
 induction n with
 | zero=>
  intro xs ys hn _ _;obtain rfl:xs = []:=List.length_eq_zero_iff.1 (by omega);obtain rfl:ys = []:=List.length_eq_zero_iff.1 (by omega);rw [bQ]; rfl
 | succ n ih=>
  intro xs ys hn hx hy
  match xs,ys with
  | [],[]=>rw [bQ]; rfl
  | [],y :: ys=>rw [bQ,List.any_cons,ih [] ys (by simp at hn ⊢; omega) rfl (eu hy)]; rfl
  | x :: xs,[]=>rw [bQ,List.any_cons,ih xs [] (by simp at hn ⊢; omega) (eu hx) rfl,GZ,GZ]; rfl
  | x :: xs,y :: ys=>
   by_cases h1:bV x y < 0
   ·rw [mV h1,List.any_cons,ih xs (y :: ys) (by simp at hn ⊢; omega) (eu hx) hy]
    have:hasB (y :: ys) x=false:=yh (fun z J=>by
     rcases ύ.1 J with rfl | J
     ·exact h1
     ·exact iY h1 (by have:=fM hy z J; omega))
    simp [meets,this]
   ·by_cases h2:0 < bV x y
    ·rw [mW h2,List.any_cons,ih (x :: xs) ys (by simp at hn ⊢; omega) hx (eu hy)]
     have a0:bV y x < 0:=by rw [lJ x y]; omega
     have J:∀ z ∈ x :: xs,hasB (y :: ys) z=hasB ys z:=fun z J=>by
      have:bV y z < 0:=by
       rcases ύ.1 J with rfl | J
       ·exact a0
       ·exact iY a0 (by have:=fM hx z J; omega)
      have h0:decide (bV y z=0)=false:=decide_eq_false (by omega);simp [hasB,h0]
     have:(x :: xs).any (hasB (y :: ys))=(x :: xs).any (hasB ys):=by
      rw [Bool.eq_iff_iff]; simp only [List.any_eq_true]
      exact ⟨fun ⟨z,I,U⟩=>⟨z,I,by rw [← J z I]; exact U⟩,fun ⟨z,I,U⟩=>⟨z,I,by rw [J z I]; exact U⟩⟩
     unfold meets;rw [this]; simp
    ·rw [mX h1 h2,List.any_cons]
     have:decide (bV y x=0)=true:=decide_eq_true (by rw [lJ x y]; omega);simp [meets,hasB,this]
end D
end
section
open Go.RowKit D
namespace D
theorem Je:yc (kP gJ):=oD iL
theorem Q9 (a b:A):bV a b = -1∨bV a b=0∨bV a b=1:=by rw [jQ]; exact Je.vals _ _
theorem uo (a b:A):bV a b=0 ↔ tX a=tX b:=by rw [jQ]; exact Je.eq _ _
theorem vK (a:A):bV a a=0:=(uo a a).2 rfl
theorem og {a b:A} (h:bV a b=0) (x:A):bV a x=bV b x:=by
 rw [jQ,jQ,(uo a b).1 h]
theorem mY {a b:A} (h:bV a b=0) (x:A):bV x a=bV x b:=by
 rw [jQ,jQ,(uo a b).1 h]
theorem oV {xs:List A} {a b:A} (h:bV a b=0):hasB xs a=hasB xs b:=by
 unfold hasB; congr 1; funext x; rw [mY h]
theorem Jf {y:List T} (h:kU y=false):∀ t ∈ y,t.var=false:=by
 intro t I;have:=List.any_eq_false.1 h t I;simpa using this
theorem zH:∀ {y us:List T},(∀ t ∈ y,t.var=false)→(∀ t ∈ us,t.var=false)→y.map (·.name)=us.map (·.name)→y=us
 | [],[],_,_,_=>rfl
 | [],_ :: _,_,_,h=>by simp at h
 | _ :: _,[],_,_,h=>by simp at h
 | ⟨v,n⟩ :: y,⟨v',n'⟩ :: us,h1,h2,h=>by
  simp only [List.map_cons,List.cons.injEq] at h;have J:=h1 _ Γ;have U:=h2 _ Γ;dsimp only at J U;obtain ⟨rfl,h⟩:=h;rw [J,U,zH (fun t I=>h1 t (Δ _ I)) (fun t I=>h2 t (Δ _ I)) h]
theorem G5 {a:A} (h:dI a=true):∀ t ∈ a.args,t.var=false:=by
 unfold dI at h;simp only [ο,Bool.not_eq_true'] at h;exact Jf h.2
theorem Qn {a b:A} (ha:dI a=true) (hb:dI b=true) (h:bV a b=0):a=b:=by
 have:=(uo a b).1 h;unfold tX at this;simp only [List.cons.injEq] at this;obtain ⟨n,y⟩:=a;obtain ⟨m,us⟩:=b;dsimp only at *;obtain ⟨rfl,I⟩:=this;have e:y=us:=zH (G5 ha) (G5 hb) I;rw [e]
theorem jR {xs:List A} {a:A} (h:a ∈ xs):hasB xs a=true:=by
 unfold hasB; rw [List.any_eq_true]; exact ⟨a,h,by simp [vK]⟩
theorem lZ {xs:List A} {a:A}:hasB xs a=true ↔ ∃ x ∈ xs,bV x a=0:=by
 unfold hasB; simp [List.any_eq_true]
theorem zI {xs:List A} (y:∀ x ∈ xs,dI x=true) {a:A} (ha:dI a=true):hasB xs a=true ↔ a ∈ xs:=by
 refine ⟨fun h=>?_,jR⟩;obtain ⟨x,hm,hc⟩:=lZ.1 h;rw [← Qn (y x hm) ha hc]; exact hm
theorem fV (x:A) (xs:List A) (a:A):hasB (x :: xs) a=(decide (bV x a=0) || hasB xs a):=by simp [hasB]
theorem BX (xs ys:List A) (a:A):hasB (xs ++ ys) a=(hasB xs a || hasB ys a):=by simp [hasB]
theorem kX {x:A} {xs:List A} (h:∀ y ∈ xs,bV x y < 0) (I:gm xs=true):gm (x :: xs)=true:=by
 cases xs with
 | nil=>rfl
 | cons y ys=>simp only [gm,ο,decide_eq_true_eq]; exact ⟨h y Γ,I⟩
theorem Ef:∀ {xs ys:List A},gm xs=true→gm ys=true→(∀ x ∈ xs,∀ y ∈ ys,bV x y < 0)→gm (xs ++ ys)=true
 | [],ys,_,h,_=>h
 | x :: xs,ys,h1,h2,h=>by
  refine kX (fun z I=>?_) (Ef (eu h1) h2 fun z I y J=>h z (Δ _ I) y J)
  rcases μ.1 I with I | I
  ·exact fM h1 z I
  ·exact h x Γ z I
theorem wU {p:A→Bool}:∀ {xs:List A},gm xs=true→gm (xs.filter p)=true
 | [],_=>rfl
 | x :: xs,h=>by
  rw [List.filter_cons]
  split
  ·exact kX (fun y I=>fM h y (List.mem_filter.1 I).1) (wU (eu h))
  ·exact wU (eu h)
theorem KD:∀ {xs ys:List A},gm (xs ++ ys)=true→gm xs=true
 | [],_,_=>rfl
 | x :: xs,ys,h=>kX (fun y I=>fM h y (Ξ _ I)) (KD (eu h))
theorem D7 {xs ys:List A} (h:gm ys=true) (I:List.Sublist xs ys):gm xs=true:=by
 induction I with
 | slnil=>rfl
 | cons a _ ih=>exact ih (eu h)
 | cons_cons a I ih=>exact kX (fun y J=>fM h y (I.subset J)) (ih (eu h))
theorem D8:∀ {xs ys:List A},gm xs=true→gm ys=true→(∀ x ∈ xs,dI x=true)→(∀ x ∈ ys,dI x=true)→(∀ a,hasB xs a=hasB ys a)→xs=ys
 | [],[],_,_,_,_,_=>rfl
 | [],y :: ys,_,_,_,_,h=>by have:=h y; rw [jR Γ] at this; simp [hasB] at this
 | x :: xs,[],_,_,_,_,h=>by have:=h x; rw [jR Γ] at this; simp [hasB] at this
 | x :: xs,y :: ys,hx,hy,fx,fy,h=>by
  have h1:bV y x≤0:=by
   obtain ⟨z,I,hc⟩:=lZ.1 ((h x).symm.trans (jR Γ))
   rcases ύ.1 I with rfl | I
   ·omega
   ·have:=fM hy z I
    rw [mY hc] at this; omega
  have J:bV x y≤0:=by
   obtain ⟨z,I,hc⟩:=lZ.1 ((h y).trans (jR Γ))
   rcases ύ.1 I with rfl | I
   ·omega
   ·have:=fM hx z I
    rw [mY hc] at this; omega
  have U:=lJ x y;obtain rfl:=Qn (fx x Γ) (fy y Γ) (by omega);rw [D8 (eu hx) (eu hy) (fun z I=>fx z (Δ _ I)) (fun z I=>fy z (Δ _ I)) fun a=>?_];have:=h a;rw [fV,fV] at this;by_cases hc:bV x a=0
  ·rw [← oV hc,← oV hc,yh (fM hx),yh (fM hy)]
  ·simpa [hc] using this
def eG (xs:List A) (a:A):List A:=if hasB xs a then xs else xs.take (pl xs a) ++ a :: xs.drop (pl xs a)
def cu (xs ys:List A):List A:=xs.filter fun x=>!hasB ys x
theorem qG:∀ {xs:List A} (I:gm xs=true) (a:A),(∀ x ∈ xs.take (pl xs a),bV x a < 0)∧(∀ x ∈ xs.drop (pl xs a),¬ bV x a < 0)∧pl xs a≤xs.length
 | [],_,a=>by simp [pl]
 | x :: xs,I,a=>by
  obtain ⟨h1,U,h3⟩:=qG (eu I) a;by_cases hc:bV x a < 0
  ·have:pl (x :: xs) a=pl xs a+1:=by unfold pl; rw [List.countP_cons_of_pos (by simpa [GY] using hc)]
   rw [this];refine ⟨fun z y=>?_,fun z y=>U z (by simpa using y),by simpa using h3⟩;rw [List.take_succ_cons] at y
   rcases ύ.1 y with rfl | y
   ·exact hc
   ·exact h1 z y
  ·have h0:∀ z ∈ x :: xs,¬ bV z a < 0:=by
    intro z y J
    rcases ύ.1 y with rfl | y
    ·exact hc J
    ·exact hc (iY (fM I z y) (by omega))
   have:pl (x :: xs) a=0:=by unfold pl; rw [List.countP_eq_zero]; intro z y; have:=h0 z y; simp [GY]; omega
   rw [this];exact ⟨fun z y=>by simp at y,fun z y=>h0 z (by simpa using y),by simp⟩
theorem OC (xs:List A) (n:Nat) (b:A):hasB xs b=(hasB (xs.take n) b || hasB (xs.drop n) b):=by
 conv=>lhs; rw [← List.take_append_drop n xs]
 exact BX _ _ _
theorem KE (xs:List A) (a b:A):hasB (eG xs a) b=(hasB xs b || decide (bV a b=0)):=by
 unfold eG
 split
 ·rename_i h
  by_cases hc:bV a b=0
  ·rw [← oV hc,h]; rfl
  ·simp [hc]
 ·rw [BX,fV,OC xs (pl xs a) b]
  cases hasB (xs.take (pl xs a)) b <;> cases hasB (xs.drop (pl xs a)) b <;> simp
theorem yj {xs:List A} (J:gm xs=true) (a:A):gm (eG xs a)=true:=by
 unfold eG
 split
 ·exact J
 ·rename_i h
  obtain ⟨h1,h2,_⟩:=qG J a
  have h3:∀ x ∈ xs.drop (pl xs a),bV a x < 0:=by
   intro x I;have g1:=h2 x I;have g2:bV x a ≠ 0:=fun e=>h (lZ.2 ⟨x,List.mem_of_mem_drop I,e⟩)
   have:=lJ x a;have:=Q9 x a;omega
  refine Ef (D7 J (List.take_sublist _ _)) (kX h3 (D7 J (List.drop_sublist _ _))) fun x I y U=>?_
  rcases ύ.1 U with rfl | U
  ·exact h1 x I
  ·exact iY (h1 x I) (by have:=h3 y U; omega)
theorem vM {xs:List A} {a x:A} (h:x ∈ eG xs a):x ∈ xs∨x=a:=by
 unfold eG at h
 split at h
 ·exact .inl h
 ·rcases μ.1 h with h | h
  ·exact .inl (List.mem_of_mem_take h)
  ·rcases ύ.1 h with rfl | h
   ·exact .inr rfl
   ·exact .inl (List.mem_of_mem_drop h)
theorem OD {xs:List A} {a:A} (h:hasB xs a=false):(eG xs a).length=xs.length+1:=by
 unfold eG;rw [if_neg (by simp [h]),χ,List.length_cons];have:=congrArg List.length (List.take_append_drop (pl xs a) xs);rw [χ] at this;omega
theorem qm (xs:List A) (a:A):(eG xs a).length≤xs.length+1:=by
 cases h:hasB xs a
 ·rw [OD h]; omega
 ·unfold eG; rw [if_pos h]; omega
theorem qH (xs ys:List A) (a:A):hasB (cu xs ys) a=(hasB xs a && !hasB ys a):=by
 rw [Bool.eq_iff_iff,ο,lZ,lZ];unfold cu;simp only [List.mem_filter,Bool.not_eq_true'];constructor
 ·rintro ⟨x,⟨h1,I⟩,y⟩
  exact ⟨⟨x,h1,y⟩,by rw [← oV y]; exact I⟩
 ·rintro ⟨⟨x,h1,y⟩,I⟩
  exact ⟨x,⟨h1,by rw [oV y]; exact I⟩,y⟩
theorem qI {xs ys:List A} {x:A} (h:x ∈ cu xs ys):x ∈ xs:=(List.mem_filter.1 h).1
theorem yt {xs ys:List A} (h:gm xs=true):gm (cu xs ys)=true:=wU h
def dA (xs ys:List A):List A:=(bQ xs ys).map (·.1)
def gy (xs ys:List A):List A:=((bQ xs ys).filter (fun p=>p.2 == 0)).map (·.1)
theorem Rf:∀ (n:Nat) (xs ys:List A),xs.length+ys.length≤n→∀ p ∈ bQ xs ys,p.1 ∈ xs∨p.1 ∈ ys:=by
 intro n
 induction n with
 | zero=>
  intro xs ys hn;obtain rfl:xs = []:=List.length_eq_zero_iff.1 (by omega);obtain rfl:ys = []:=List.length_eq_zero_iff.1 (by omega);rw [bQ]; intro p I; simp at I
 | succ n ih=>
  intro xs ys hn p
  match xs,ys with
  | [],[]=>rw [bQ]; intro I; simp at I
  | [],y :: ys=>
   rw [bQ]; intro I
   rcases ύ.1 I with rfl | I
   ·exact .inr Γ
   ·exact (ih [] ys (by simp at hn ⊢; omega) p I).imp id (Δ _)
  | x :: xs,[]=>
   rw [bQ]; intro I
   rcases ύ.1 I with rfl | I
   ·exact .inl Γ
   ·exact (ih xs [] (by simp at hn ⊢; omega) p I).imp (Δ _) id
  | x :: xs,y :: ys=>
   by_cases h1:bV x y < 0
   ·rw [mV h1]; intro I
    rcases ύ.1 I with rfl | I
    ·exact .inl Γ
    ·exact (ih xs (y :: ys) (by simp at hn ⊢; omega) p I).imp (Δ _) id
   ·by_cases J:0 < bV x y
    ·rw [mW J]; intro I
     rcases ύ.1 I with rfl | I
     ·exact .inr Γ
     ·exact (ih (x :: xs) ys (by simp at hn ⊢; omega) p I).imp id (Δ _)
    ·rw [mX h1 J]; intro I
     rcases ύ.1 I with rfl | I
     ·exact .inl Γ
     ·exact (ih xs ys (by simp at hn ⊢; omega) p I).imp (Δ _) (Δ _)
theorem oN {xs ys:List A} {x:A} (h:x ∈ dA xs ys):x ∈ xs∨x ∈ ys:=by
 obtain ⟨p,y,rfl⟩:=List.mem_map.1 h;exact Rf _ xs ys ν p y
theorem rG:∀ (n:Nat) (xs ys:List A),xs.length+ys.length≤n→(bQ xs ys).length≤xs.length+ys.length:=by
 intro n
 induction n with
 | zero=>
  intro xs ys hn;obtain rfl:xs = []:=List.length_eq_zero_iff.1 (by omega);obtain rfl:ys = []:=List.length_eq_zero_iff.1 (by omega);rw [bQ]; simp
 | succ n ih=>
  intro xs ys hn
  match xs,ys with
  | [],[]=>rw [bQ]; simp
  | [],y :: ys=>rw [bQ]; have:=ih [] ys (by simp at hn ⊢; omega); simp at this ⊢; omega
  | x :: xs,[]=>rw [bQ]; have:=ih xs [] (by simp at hn ⊢; omega); simp at this ⊢; omega
  | x :: xs,y :: ys=>
   by_cases h1:bV x y < 0
   ·rw [mV h1]; have:=ih xs (y :: ys) (by simp at hn ⊢; omega); simp at this ⊢; omega
   ·by_cases I:0 < bV x y
    ·rw [mW I]; have:=ih (x :: xs) ys (by simp at hn ⊢; omega); simp at this ⊢; omega
    ·rw [mX h1 I]; have:=ih xs ys (by simp at hn ⊢; omega); simp at this ⊢; omega
theorem Rh:∀ (n:Nat) (xs ys:List A),xs.length+ys.length≤n→gm xs=true→gm ys=true→gm (dA xs ys)=true:=by
 intro n
 induction n with
 | zero=>
  intro xs ys hn _ _;obtain rfl:xs = []:=List.length_eq_zero_iff.1 (by omega);obtain rfl:ys = []:=List.length_eq_zero_iff.1 (by omega);unfold dA; rw [bQ]; rfl
 | succ n ih=>
  intro xs ys hn J U
  match xs,ys with
  | [],[]=>unfold dA; rw [bQ]; rfl
  | [],y :: ys=>
   have h:=ih [] ys (by simp at hn ⊢; omega) rfl (eu U);have e:dA [] (y :: ys)=y :: dA [] ys:=by unfold dA; rw [bQ]; rfl
   rw [e];exact kX (fun z I=>(oN I).elim (fun h=>by simp at h) (fM U z)) h
  | x :: xs,[]=>
   have h:=ih xs [] (by simp at hn ⊢; omega) (eu J) rfl;have e:dA (x :: xs) []=x :: dA xs []:=by unfold dA; rw [bQ]; rfl
   rw [e];exact kX (fun z I=>(oN I).elim (fM J z) (fun h=>by simp at h)) h
  | x :: xs,y :: ys=>
   by_cases h1:bV x y < 0
   ·have h:=ih xs (y :: ys) (by simp at hn ⊢; omega) (eu J) U
    have e:dA (x :: xs) (y :: ys)=x :: dA xs (y :: ys):=by unfold dA; rw [mV h1]; rfl
    rw [e];refine kX (fun z I=>(oN I).elim (fM J z) fun I=>?_) h
    rcases ύ.1 I with rfl | I
    ·exact h1
    ·exact iY h1 (by have:=fM U z I; omega)
   ·by_cases h2:0 < bV x y
    ·have h:=ih (x :: xs) ys (by simp at hn ⊢; omega) J (eu U)
     have a0:bV y x < 0:=by rw [lJ x y]; omega
     have e:dA (x :: xs) (y :: ys)=y :: dA (x :: xs) ys:=by unfold dA; rw [mW h2]; rfl
     rw [e];refine kX (fun z I=>(oN I).elim (fun I=>?_) (fM U z)) h
     rcases ύ.1 I with rfl | I
     ·exact a0
     ·exact iY a0 (by have:=fM J z I; omega)
    ·have h:=ih xs ys (by simp at hn ⊢; omega) (eu J) (eu U)
     have a1:bV x y=0:=by omega
     have e:dA (x :: xs) (y :: ys)=x :: dA xs ys:=by unfold dA; rw [mX h1 h2]; rfl
     rw [e];exact kX (fun z I=>(oN I).elim (fM J z) fun I=>by rw [og a1]; exact fM U z I) h
theorem Ri {xs ys:List A} (y:gm xs=true) (I:gm ys=true):gm (dA xs ys)=true:=Rh _ xs ys ν y I
theorem Rj:∀ (n:Nat) (xs ys:List A),xs.length+ys.length≤n→∀ a,hasB (dA xs ys) a=(hasB xs a || hasB ys a):=by
 intro n
 induction n with
 | zero=>
  intro xs ys hn;obtain rfl:xs = []:=List.length_eq_zero_iff.1 (by omega);obtain rfl:ys = []:=List.length_eq_zero_iff.1 (by omega);unfold dA; rw [bQ]; intro a; rfl
 | succ n ih=>
  intro xs ys hn a
  match xs,ys with
  | [],[]=>unfold dA; rw [bQ]; rfl
  | [],y :: ys=>
   have h:=ih [] ys (by simp at hn ⊢; omega) a;have e:dA [] (y :: ys)=y :: dA [] ys:=by unfold dA; rw [bQ]; rfl
   rw [e,fV,fV,h]; cases decide (bV y a=0) <;> simp [hasB]
  | x :: xs,[]=>
   have h:=ih xs [] (by simp at hn ⊢; omega) a;have e:dA (x :: xs) []=x :: dA xs []:=by unfold dA; rw [bQ]; rfl
   rw [e,fV,fV,h,Bool.or_assoc]
  | x :: xs,y :: ys=>
   by_cases h1:bV x y < 0
   ·have h:=ih xs (y :: ys) (by simp at hn ⊢; omega) a
    have e:dA (x :: xs) (y :: ys)=x :: dA xs (y :: ys):=by unfold dA; rw [mV h1]; rfl
    rw [e,fV,fV,h,Bool.or_assoc]
   ·by_cases J:0 < bV x y
    ·have h:=ih (x :: xs) ys (by simp at hn ⊢; omega) a
     have e:dA (x :: xs) (y :: ys)=y :: dA (x :: xs) ys:=by unfold dA; rw [mW J]; rfl
     rw [e,fV,h,fV y ys]
     cases decide (bV y a=0) <;> cases hasB (x :: xs) a <;> rfl
    ·have h:=ih xs ys (by simp at hn ⊢; omega) a
     have I:bV x y=0:=by omega
     have e:dA (x :: xs) (y :: ys)=x :: dA xs ys:=by unfold dA; rw [mX h1 J]; rfl
     rw [e,fV,fV,fV,h,og I]
     cases decide (bV y a=0) <;> cases hasB xs a <;> rfl
theorem OE (xs ys:List A) (a:A):hasB (dA xs ys) a=(hasB xs a || hasB ys a):=Rj _ xs ys ν a
theorem Rk:∀ (n:Nat) (xs ys:List A),xs.length+ys.length≤n→gm xs=true→gm ys=true→gy xs ys=cu xs ys:=by
 intro n
 induction n with
 | zero=>
  intro xs ys hn _ _;obtain rfl:xs = []:=List.length_eq_zero_iff.1 (by omega);obtain rfl:ys = []:=List.length_eq_zero_iff.1 (by omega);unfold gy; rw [bQ]; rfl
 | succ n ih=>
  intro xs ys hn U hy
  match xs,ys with
  | [],[]=>unfold gy; rw [bQ]; rfl
  | [],y :: ys=>
   have h:=ih [] ys (by simp at hn ⊢; omega) rfl (eu hy);have e:gy [] (y :: ys)=gy [] ys:=by unfold gy; rw [bQ]; rfl
   rw [e,h]; rfl
  | x :: xs,[]=>
   have h:=ih xs [] (by simp at hn ⊢; omega) (eu U) rfl;have e:gy (x :: xs) []=x :: gy xs []:=by unfold gy; rw [bQ]; rfl
   rw [e,h]; simp [cu,hasB]
  | x :: xs,y :: ys=>
   by_cases h1:bV x y < 0
   ·have h:=ih xs (y :: ys) (by simp at hn ⊢; omega) (eu U) hy
    have e:gy (x :: xs) (y :: ys)=x :: gy xs (y :: ys):=by unfold gy; rw [mV h1]; rfl
    have hn:hasB (y :: ys) x=false:=yh fun z I=>by
     rcases ύ.1 I with rfl | I
     ·exact h1
     ·exact iY h1 (by have:=fM hy z I; omega)
    rw [e,h]; simp [cu,hn]
   ·by_cases h2:0 < bV x y
    ·have h:=ih (x :: xs) ys (by simp at hn ⊢; omega) U (eu hy)
     have J:bV y x < 0:=by rw [lJ x y]; omega
     have e:gy (x :: xs) (y :: ys)=gy (x :: xs) ys:=by unfold gy; rw [mW h2]; rfl
     rw [e,h];unfold cu;refine List.filter_congr fun z I=>?_
     have:bV y z < 0:=by
      rcases ύ.1 I with rfl | I
      ·exact J
      ·exact iY J (by have:=fM U z I; omega)
     rw [fV,decide_eq_false (by omega)]; rfl
    ·have h:=ih xs ys (by simp at hn ⊢; omega) (eu U) (eu hy)
     have a0:bV x y=0:=by omega
     have e:gy (x :: xs) (y :: ys)=gy xs ys:=by unfold gy; rw [mX h1 h2]; rfl
     have J:bV y x=0:=by rw [lJ x y]; omega
     rw [e,h];unfold cu;rw [List.filter_cons,fV,decide_eq_true J];simp only [Bool.true_or,Bool.not_true,Bool.false_eq_true,if_false];refine List.filter_congr fun z I=>?_
     have:bV y z < 0:=by rw [← og a0]; exact fM U z I
     rw [fV,decide_eq_false (by omega)]; rfl
theorem wV {xs ys:List A} (y:gm xs=true) (I:gm ys=true):gy xs ys=cu xs ys:=Rk _ xs ys ν y I
def kY (xs ys:List A):List A:=ys.foldl eG xs
theorem yu:∀ {ys xs:List A},gm xs=true→gm (kY xs ys)=true
 | [],_,h=>h
 | y :: ys,xs,h=>yu (ys:=ys) (yj h y)
theorem vN:∀ (ys xs:List A) (a:A),hasB (kY xs ys) a=(hasB xs a || hasB ys a)
 | [],xs,a=>by simp [kY,hasB]
 | y :: ys,xs,a=>by
  show hasB (kY (eG xs y) ys) a=_;rw [vN ys,KE,fV,Bool.or_assoc]
theorem Eg:∀ {ys xs:List A} {x:A},x ∈ kY xs ys→x ∈ xs∨x ∈ ys
 | [],_,_,h=>.inl h
 | y :: ys,xs,x,h=>by
  rcases Eg (ys:=ys) (xs:=eG xs y) h with h | h
  ·rcases vM h with h | rfl
   ·exact .inl h
   ·exact .inr Γ
  ·exact .inr (Δ _ h)
theorem uq:∀ (ys xs:List A),(kY xs ys).length≤xs.length+ys.length
 | [],xs=>by simp [kY]
 | y :: ys,xs=>by
  have h1:=uq ys (eG xs y);have I:=qm xs y;simp only [List.length_cons];show (kY (eG xs y) ys).length≤_;omega
theorem OG {xs ys:List A} (I:gm xs=true) (hy:gm ys=true) (J:∀ x ∈ xs,dI x=true) (U:∀ x ∈ ys,dI x=true):dA xs ys=kY xs ys:=
 D8 (Ri I hy) (yu I) (fun z y=>(oN y).elim (J z) (U z)) (fun z y=>(Eg y).elim (J z) (U z)) fun a=>by rw [OE,vN]
end D
end
section
open Go.RowKit D
namespace D
def Dv {α:Type} (n:Nat) (R:Rel α):Prop:=∀ {w cs x bs},R w cs x bs→cs.length=n∧∀ u ∈ cs,Value.oneCell' u=true
theorem lF:Dv 2 kD:=fun h=>by obtain ⟨rfl,_⟩:=h; simp [Value.oneCell']
theorem eH:Dv 2 aJ:=fun h=>by
 obtain ⟨s,rfl,_,y⟩:=h;obtain ⟨Ad,cap,rfl,_⟩:=aj y;simp [Value.oneCell']
theorem OH:Dv 3 qF:=fun h=>by
 obtain ⟨s,rfl,_,y⟩:=h;obtain ⟨Ad,cap,rfl,_⟩:=aj y;simp [Value.oneCell']
theorem oW:Dv 3 iy:=fun h=>by
 obtain ⟨s,b,_,_,rfl,_,_,I,J⟩:=h;obtain ⟨Ad,cap,rfl,_⟩:=aj I;obtain ⟨U,y,rfl,_⟩:=aj J;simp [Value.oneCell']
theorem jh:Dv 1 jI:=fun h=>by obtain ⟨rfl,_⟩:=h; simp [Value.oneCell']
structure aT {α:Type} (n:Nat) (R:Rel α) (w:World) (L:List Value) (xs:List α) (bs:List Nat):Prop where
 len:L.length=xs.length * n
 one:∀ u ∈ L,Value.oneCell' u=true
 at_:∃ G:Nat→List Nat,bs=(List.range xs.length).flatMap G∧∀ j (h:j < xs.length),R w ((L.drop (j * n)).take n) xs[j] (G j)
theorem aT.nil {α:Type} {n:Nat} {R:Rel α} {w:World}:aT n R w [] [] []:=⟨by simp,fun u y=>by simp at y,fun _=>[],rfl,fun j h=>absurd h (Nat.not_lt_zero _)⟩
theorem aT.keep {α:Type} {n:Nat} {R:Rel α} (g:Good R) {w w':World} {L:List Value} {xs:List α} {bs:List Nat} (h:aT n R w L xs bs) (I:∀ b ∈ bs,w'.heap[b]? = w.heap[b]?):aT n R w' L xs bs:=by
 obtain ⟨h1,J,G,rfl,U⟩:=h;exact ⟨h1,J,G,rfl,fun j y=>g.keep (U j y) fun b hb=>I b (List.mem_flatMap.2 ⟨j,List.mem_range.2 y,hb⟩)⟩
theorem aT.lt {α:Type} {n:Nat} {R:Rel α} (g:Good R) {w:World} {L:List Value} {xs:List α} {bs:List Nat} (h:aT n R w L xs bs):∀ b ∈ bs,b < w.heap.size:=by
 obtain ⟨h1,J,G,rfl,y⟩:=h;intro b hb;obtain ⟨j,I,hb⟩:=List.mem_flatMap.1 hb;exact g.lt (y j (List.mem_range.1 I)) b hb
theorem aT.below {α:Type} {n:Nat} {R:Rel α} (g:Good R) {w w':World} {L:List Value} {xs:List α} {bs:List Nat} (h:aT n R w L xs bs) (hb:Below w.heap.size w w'):aT n R w' L xs bs:=
 h.keep g fun b y=>hb.block b (h.lt g b y)
theorem aT.dJ {α:Type} {n:Nat} {R:Rel α} (o:Dv n R) {w:World} {cs:List Value} {x:α} {bs:List Nat} (h:R w cs x bs):aT n R w cs [x] bs:=by
 refine ⟨by rw [(o h).1]; simp,(o h).2,fun _=>bs,by simp,fun j y=>?_⟩;obtain rfl:j=0:=by simpa using y
 simp only [Nat.zero_mul,List.drop_zero,List.getElem_cons_zero];rw [ϕ (by rw [(o h).1]; omega)];exact h
theorem aT.append {α:Type} {n:Nat} {R:Rel α} {w:World} {L M:List Value} {xs ys:List α} {J U:List Nat} (h:aT n R w L xs J) (k:aT n R w M ys U):aT n R w (L ++ M) (xs ++ ys) (J ++ U):=by
 obtain ⟨h1,h2,G,rfl,h3⟩:=h;obtain ⟨k1,k2,H,rfl,k3⟩:=k;refine ⟨by rw [χ,χ,h1,k1,Nat.add_mul],fun u hu=>(μ.1 hu).elim (h2 u) (k2 u),fun j=>if j < xs.length then G j else H (j - xs.length),?_,fun j I=>?_⟩
 ·rw [χ,List.range_add,List.flatMap_append]
  congr 1
  ·rw [List.flatMap_def,List.flatMap_def]; congr 1
   exact List.map_congr_left fun j I=>by rw [if_pos (List.mem_range.1 I)]
  ·rw [List.flatMap_map,List.flatMap_def,List.flatMap_def]; congr 1
   exact List.map_congr_left fun j I=>by
    show H j=if xs.length+j < xs.length then G (xs.length+j) else H (xs.length+j - xs.length)
    rw [if_neg (by omega),Nat.add_sub_cancel_left]
 ·rw [χ] at I
  by_cases y:j < xs.length
  ·simp only [if_pos y]
   have hm:j * n+n≤xs.length * n:=by
    have:=Nat.mul_le_mul_right n (show j+1≤xs.length by omega);rw [Nat.add_mul,Nat.one_mul] at this; exact this
   rw [List.drop_append_of_le_length (by omega),List.take_append_of_le_length (by rw [List.length_drop]; omega),List.getElem_append_left y];exact h3 j y
  ·simp only [if_neg y]
   have hm:xs.length * n≤j * n:=Nat.mul_le_mul_right n (by omega);rw [List.getElem_append_right (by omega),List.drop_append,List.drop_of_length_le (by omega),List.nil_append,h1,← Nat.sub_mul];exact k3 (j - xs.length) (by omega)
theorem aT.take {α:Type} {n:Nat} {R:Rel α} {w:World} {L:List Value} {xs:List α} {bs:List Nat} (h:aT n R w L xs bs) {k:Nat} (J:k≤xs.length):∃ U,aT n R w (L.take (k * n)) (xs.take k) U∧∀ b ∈ U,b ∈ bs:=by
 obtain ⟨h1,h2,G,rfl,h3⟩:=h;have y:k * n≤xs.length * n:=Nat.mul_le_mul_right n J;refine ⟨_,⟨by simp only [List.length_take]; rw [h1,Nat.min_eq_left y,Nat.min_eq_left J],fun u hu=>h2 u (List.mem_of_mem_take hu),G,rfl,fun j I=>?_⟩,fun b hb=>?_⟩
 ·have a0:j < k:=by simp at I; omega
  have hm:j * n+n≤k * n:=by
   have:=Nat.mul_le_mul_right n (show j+1≤k by omega);rw [Nat.add_mul,Nat.one_mul] at this; exact this
  rw [List.drop_take,List.take_take,Nat.min_eq_left (by omega),List.getElem_take];exact h3 j (by omega)
 ·obtain ⟨j,I,hb⟩:=List.mem_flatMap.1 hb
  have:=List.mem_range.1 I;exact List.mem_flatMap.2 ⟨j,List.mem_range.2 (by simp at this; omega),hb⟩
theorem aT.drop {α:Type} {n:Nat} {R:Rel α} {w:World} {L:List Value} {xs:List α} {bs:List Nat} (h:aT n R w L xs bs) {k:Nat} (hk:k≤xs.length):∃ I,aT n R w (L.drop (k * n)) (xs.drop k) I∧∀ b ∈ I,b ∈ bs:=by
 obtain ⟨h1,J,G,rfl,U⟩:=h;refine ⟨_,⟨by simp only [List.length_drop]; rw [h1,Nat.sub_mul],fun u hu=>J u (List.mem_of_mem_drop hu),fun j=>G (k+j),rfl,fun j y=>?_⟩,fun b hb=>?_⟩
 ·rw [List.drop_drop,← Nat.add_mul,List.getElem_drop]
  exact U (k+j) (by simp at y; omega)
 ·obtain ⟨j,y,hb⟩:=List.mem_flatMap.1 hb
  have:=List.mem_range.1 y;exact List.mem_flatMap.2 ⟨k+j,List.mem_range.2 (by simp at this; omega),hb⟩
theorem Qo {n:Nat} {F:Nat→List Value}:∀ {m:Nat},(∀ k,k < m→(F k).length=n)→((List.range m).flatMap F).length=m * n∧∀ k i,k < m→i < n→((List.range m).flatMap F)[k * n+i]? = (F k)[i]?
 | 0,_=>⟨by simp,fun k i y=>absurd y (Nat.not_lt_zero _)⟩
 | m+1,h=>by
  obtain ⟨h1,I⟩:=Qo (m:=m) fun k y=>h k (by omega)
  rw [List.range_succ,List.flatMap_append];simp only [List.flatMap_cons,List.flatMap_nil,List.append_nil];refine ⟨by rw [χ,h1,h m (by omega),Nat.add_mul,Nat.one_mul],fun k i y J=>?_⟩;by_cases e:k=m
  ·subst e
   rw [List.getElem?_append_right (by omega),h1,Nat.add_sub_cancel_left]
  ·have hm:k * n+n≤m * n:=by
    have:=Nat.mul_le_mul_right n (show k+1≤m by omega);rw [Nat.add_mul,Nat.one_mul] at this; exact this
   rw [List.getElem?_append_left (by omega)];exact I k i (by omega) J
theorem rH {α:Type} {n:Nat} {R:Rel α} (o:Dv n R) (hn:0 < n) {w:World} {Ad:Option Addr} {len cap:Nat} {xs:List α} {bs:List Nat} (h:iU n R w [.slice Ad len cap] xs bs):
  ∃ L b2,aT n R w L xs b2∧(∀ b ∈ b2,b ∈ bs)∧(xs ≠ []→∃ b o,Ad=some ⟨b,o,none⟩∧b ∈ bs∧∀ j u,L[j]? = some u→w.cell? ⟨b,o+j,none⟩=some u):=by
 obtain ⟨a3,a2,U,hl,hm,h0,h1⟩:=h;by_cases a0:xs = []
 ·subst a0
  exact ⟨[],[],aT.nil,fun b hb=>by simp at hb,fun h=>absurd rfl h⟩
 ·simp only [List.cons.injEq,Value.slice.injEq,and_true] at U
  obtain ⟨rfl,rfl,rfl⟩:=U;obtain ⟨b,o',rfl,F,G,rfl,hF⟩:=h1 a0;have hlen:∀ k,k < xs.length→(F k).length=n:=fun k y=>(hF k _ (Ψ y)).1
  obtain ⟨f1,f2⟩:=Qo hlen
  have I:∀ k,k < xs.length→(((List.range xs.length).flatMap F).drop (k * n)).take n=F k:=by
   intro k y;refine List.ext_getElem? fun i=>?_
   by_cases hi:i < n
   ·rw [List.getElem?_take_of_lt hi,List.getElem?_drop]; exact f2 k i y hi
   ·rw [List.getElem?_eq_none (by rw [List.length_take]; omega),List.getElem?_eq_none (by rw [hlen k y]; omega)]
  refine ⟨(List.range xs.length).flatMap F,(List.range xs.length).flatMap G,⟨f1,fun u J=>?_,G,rfl,fun j hj=>?_⟩,fun c hc=>Δ _ hc,fun _=>⟨b,o',rfl,by simp,fun j u J=>?_⟩⟩
  ·obtain ⟨k,y,J⟩:=List.mem_flatMap.1 J
   exact (o (hF k _ (Ψ (List.mem_range.1 y))).2.2).2 u J
  ·rw [I j hj]; exact (hF j _ (Ψ hj)).2.2
  ·have a1:=(List.getElem?_eq_some_iff.1 J).1
   rw [f1] at a1;have y:j / n < xs.length:=(Nat.div_lt_iff_lt_mul hn).2 a1;have hi:=Nat.mod_lt j hn;have e:j / n * n+j % n=j:=by rw [Nat.mul_comm]; exact Nat.div_add_mod j n
   rw [← e,f2 _ _ y hi] at J;have:=(hF (j / n) _ (Ψ y)).2.1 (j % n) u J;rw [e] at this; exact this
theorem aT.slice {α:Type} {n:Nat} {R:Rel α} {w:World} {L:List Value} {xs:List α} {bs:List Nat} (h:aT n R w L xs bs) {base e:Nat} {v:Value} (I:w.ownsRow base e n v xs.length L):
  ∃ b2,iU n R w [v] xs b2∧∀ b ∈ b2,base≤b∨b ∈ bs:=by
 obtain ⟨h1,_,G,rfl,h3⟩:=h
 rcases I.2 with ⟨rfl,hL⟩ | ⟨g,cap,a3,rfl,hg,hh,J,U,a4⟩
 ·have hx:xs = []:=by
   by_cases y:xs = []
   ·exact y
   ·exfalso
    have a0:0 < xs.length:=List.length_pos_iff.2 y
    first
     | (rw [hL] at a0; omega)
     | omega
  subst hx;exact ⟨[],⟨none,0,rfl,ε,ε,fun _=>rfl,fun h=>absurd rfl h⟩,fun b hb=>by simp at hb⟩
 ·by_cases y:xs = []
  ·subst y
   exact ⟨[],⟨_,cap,rfl,J,U,fun _=>rfl,fun h=>absurd rfl h⟩,fun b hb=>by simp at hb⟩
  ·refine ⟨g :: (List.range xs.length).flatMap G,⟨_,cap,rfl,J,U,fun h=>absurd h y,fun _=>⟨g,0,rfl,fun k=>(L.drop (k * n)).take n,G,rfl,fun k x hx=>?_⟩⟩,fun b hb=>?_⟩
   ·obtain ⟨a1,rfl⟩:=List.getElem?_eq_some_iff.1 hx
    have hmul:k * n+n≤xs.length * n:=by
     have:=Nat.mul_le_mul_right n (show k+1≤xs.length by omega);rw [Nat.add_mul,Nat.one_mul] at this; exact this
    refine ⟨by simp; omega,fun j v hv=>?_,h3 k a1⟩
    have a2:j < n:=by
     have:=(List.getElem?_eq_some_iff.1 hv).1;simp at this; omega
    rw [List.getElem?_take_of_lt a2,List.getElem?_drop] at hv;rw [Nat.zero_add,I.cellAt (k * n+j) (by omega)];exact hv
   ·rcases ύ.1 hb with rfl | hb
    ·exact .inl hg
    ·exact .inr hb
end D
end
section
open Go.RowKit D
namespace D
variable {P:Program}
theorem addr_add (b o j:Nat):(⟨b,o,none⟩:Addr).add j=⟨b,o+j,none⟩:=by unfold Addr.add; split <;> simp_all
theorem dU {w:World} {base e size n:Nat} {v:Value} {L:List Value} (h:w.ownsRow base e size v n L):∃ A cap,v=.slice A n cap:=by
 rcases h.2 with ⟨rfl,rfl⟩ | ⟨g,cap,_,rfl,_⟩
 ·exact ⟨none,0,rfl⟩
 ·exact ⟨_,cap,rfl⟩
theorem KF (w:World) (base:Nat) (t ty e:TypeId) (i:TypeInfo) (size:Nat) (J:P.underlying t=some (.slice e)) (U:P.info? e=some i)
  (v:Value) (n:Nat) (xs:List Value) (y:w.ownsRow base e size v n xs) (c:Nat):(Builtin.append_ #[t,t] ty #[v,.slice none 0 c]).run P w=.ok v w:=by
 rcases y.2 with ⟨rfl,rfl⟩ | ⟨g,cap,a0,rfl,_,_,I,_⟩
 ·simp [Builtin.append_,run_underlying J,sizeOf,typeInfo,U,Builtin.lenOf,Builtin.firstCells]
 ·simp [Builtin.append_,run_underlying J,sizeOf,typeInfo,U,Builtin.lenOf,Builtin.firstCells,I,storeCells]
def Lies (w:World) (Ad:Option Addr) (news:List Value):Prop:=∀ j u,news[j]? = some u→∃ ad,Ad=some ad∧w.cell? (ad.add j)=some u
theorem Lies.nil (w:World) (Ad:Option Addr):Lies w Ad []:=fun j u h=>by simp at h
theorem Lies.mk {w:World} {b o:Nat} {news:List Value} (h:∀ j u,news[j]? = some u→w.cell? ⟨b,o+j,none⟩=some u):Lies w (some ⟨b,o,none⟩) news:=fun j u y=>⟨_,rfl,by rw [addr_add]; exact h j u y⟩
theorem Xf (w:World) (base:Nat) (t ty e:TypeId) (i:TypeInfo) (z:Value) (size bytes:Nat) (ht:P.underlying t=some (.slice e)) (hi:P.info? e=some i) (hz:i.zero=some z)
  (U:i.size=size) (a3:i.bytes=bytes) (a4:z.cells.size=size) (a1:0 < size)
  (v:Value) (n:Nat) (xs:List Value) (y:w.ownsRow base e size v n xs)
  (Ad:Option Addr) (m c:Nat) (news:List Value) (hl:news.length=m * size) (I:Lies w Ad news) (h1:∀ u ∈ news,Value.oneCell' u=true)
  (a5:n+m≤maxLen) (J:(n+m) * bytes≤140737488355328) (a0:base≤w.heap.size):
  ∃ A cap w',(Builtin.append_ #[t,t] ty #[v,.slice Ad m c]).run P w=.ok (.slice A (n+m) cap) w'∧w'.ownsRow base e size (.slice A (n+m) cap) (n+m) (xs ++ news)∧w.grownBy w' v.ownBlock∧
   ((Value.slice A (n+m) cap).ownBlock=v.ownBlock∨(Value.slice A (n+m) cap).ownBlock=some w.heap.size):=by
 cases Ad with
 | none=>
  have hm:m=0:=by
   rcases Nat.eq_zero_or_pos m with h | h
   ·exact h
   ·exfalso
    have a2:0 < news.length:=by rw [hl]; exact Nat.mul_pos h a1
    obtain ⟨ad,h,_⟩:=I 0 _ (Ψ a2);cases h
  subst hm;obtain rfl:news = []:=List.length_eq_zero_iff.1 (by rw [hl]; simp);obtain ⟨A,cap,rfl⟩:=dU y;exact ⟨A,cap,w,KF w base t ty e i size ht hi _ n xs y c,by rw [List.append_nil]; exact y,⟨rfl,rfl,rfl,ν,fun _ _ _=>rfl⟩,.inl rfl⟩
 | some ad=>
  obtain ⟨v',w',hr,h2,h3,_,h5⟩:=run_append_own_at (P:=P) w base t ty e i z size bytes ht hi hz U a3 a4 a1 v n xs y ad m c news hl
   (fun j u hj=>by obtain ⟨a6,h,h'⟩:=I j u hj; cases h; exact h') h1 a5 J a0
  obtain ⟨A,cap,rfl⟩:=dU h2;exact ⟨A,cap,w',hr,h2,h3,h5⟩
theorem Uz {w:World} {o:Oper} {a:Act} {K:Act→World→Prop} {Q:Exit→Act→World→Prop} (s x:Operand) (t:TypeId)
  (ho:o.op=.call { callee:=.builtin .append,args:=#[s,x],argTypes:=#[t,t] })
  (base:Nat) (e:TypeId) (i:TypeInfo) (z:Value) (size bytes:Nat) (ht:P.underlying t=some (.slice e)) (hi:P.info? e=some i) (hz:i.zero=some z)
  (I:i.size=size) (a1:i.bytes=bytes) (a2:z.cells.size=size) (a3:0 < size)
  (v:Value) (n:Nat) (xs:List Value) (hs:a.eval s=v) (a0:w.ownsRow base e size v n xs)
  (Ad:Option Addr) (m c:Nat) (news:List Value) (hx:a.eval x=.slice Ad m c) (hl:news.length=m * size) (J:Lies w Ad news) (h1:∀ u ∈ news,Value.oneCell' u=true)
  (a4:n+m≤maxLen) (y:(n+m) * bytes≤140737488355328) (U:base≤w.heap.size)
  (h:∀ A cap w',w'.ownsRow base e size (.slice A (n+m) cap) (n+m) (xs ++ news)→w.grownBy w' v.ownBlock→((Value.slice A (n+m) cap).ownBlock=v.ownBlock∨(Value.slice A (n+m) cap).ownBlock=some w.heap.size)→K (a.put o.dst (.slice A (n+m) cap)) w'):o.wp P a w K Q:=by
 obtain ⟨A,cap,w',hr,h2,h3,h4⟩:=Xf (P:=P) w base t o.type e i z size bytes ht hi hz I a1 a2 a3 v n xs a0 Ad m c news hl J h1 a4 y U;unfold Oper.wp execOp;simp only [ho,resolve,invoke,builtin,Sem.run_bind,Sem.run_pure,Result.andThen_ok,List.map_toArray,List.map_cons,List.map_nil,hs,hx,hr];exact h A cap w' h2 h3 h4
theorem wW {w:World} {a0:Array Oper} {rest:List Oper} {o:Oper} {a:Act} {Q:Exit→Act→World→Prop} (a2:o.guard=none) (s x:Operand) (t:TypeId)
  (ho:o.op=.call { callee:=.builtin .append,args:=#[s,x],argTypes:=#[t,t] })
  (base:Nat) (e:TypeId) (i:TypeInfo) (z:Value) (size bytes:Nat) (ht:P.underlying t=some (.slice e)) (hi:P.info? e=some i) (hz:i.zero=some z)
  (I:i.size=size) (a3:i.bytes=bytes) (a4:z.cells.size=size) (a5:0 < size)
  (v:Value) (n:Nat) (xs:List Value) (hs:a.eval s=v) (a1:w.ownsRow base e size v n xs)
  (Ad:Option Addr) (m c:Nat) (news:List Value) (hx:a.eval x=.slice Ad m c) (hl:news.length=m * size) (J:Lies w Ad news) (h1:∀ u ∈ news,Value.oneCell' u=true)
  (a6:n+m≤maxLen) (y:(n+m) * bytes≤140737488355328) (U:base≤w.heap.size)
  (h:∀ A cap w',w'.ownsRow base e size (.slice A (n+m) cap) (n+m) (xs ++ news)→w.grownBy w' v.ownBlock→((Value.slice A (n+m) cap).ownBlock=v.ownBlock∨(Value.slice A (n+m) cap).ownBlock=some w.heap.size)→wpList P a0 Q rest (a.put o.dst (.slice A (n+m) cap)) w'):wpList P a0 Q (o :: rest) a w:=
 wpList_plain a2 fun _ hK=>Uz s x t ho base e i z size bytes ht hi hz I a3 a4 a5 v n xs hs a1 Ad m c news hx hl J h1 a6 y U fun A cap w' h2 h3 h4=>hK _ _ (h A cap w' h2 h3 h4)
theorem iJ {w:World} {a0:Array Oper} {o:Oper} {a:Act} {K:Act→World→Prop} {Q:Exit→Act→World→Prop} {E:Prop} (a2:o.guard=none) (s x:Operand) (t:TypeId)
  (ho:o.op=.call { callee:=.builtin .append,args:=#[s,x],argTypes:=#[t,t] })
  (base:Nat) (e:TypeId) (i:TypeInfo) (z:Value) (size bytes:Nat) (ht:P.underlying t=some (.slice e)) (hi:P.info? e=some i) (hz:i.zero=some z)
  (I:i.size=size) (a3:i.bytes=bytes) (a4:z.cells.size=size) (a5:0 < size)
  (v:Value) (n:Nat) (xs:List Value) (hs:a.eval s=v) (a1:w.ownsRow base e size v n xs)
  (Ad:Option Addr) (m c:Nat) (news:List Value) (hx:a.eval x=.slice Ad m c) (hl:news.length=m * size) (J:Lies w Ad news) (h1:∀ u ∈ news,Value.oneCell' u=true)
  (a6:n+m≤maxLen) (y:(n+m) * bytes≤140737488355328) (U:base≤w.heap.size)
  (h:∀ A cap w',w'.ownsRow base e size (.slice A (n+m) cap) (n+m) (xs ++ news)→w.grownBy w' v.ownBlock→((Value.slice A (n+m) cap).ownBlock=v.ownBlock∨(Value.slice A (n+m) cap).ownBlock=some w.heap.size)→K (a.put o.dst (.slice A (n+m) cap)) w'):
  if Region.wanted o (yielded a0 a.tmps)=true then Oper.wp P o a w K Q else E:=by
 have hw:Region.wanted o (yielded a0 a.tmps)=true:=by simp [Region.wanted,a2]
 rw [if_pos hw];exact Uz s x t ho base e i z size bytes ht hi hz I a3 a4 a5 v n xs hs a1 Ad m c news hx hl J h1 a6 y U h
theorem OI (w:World) (base:Nat) (dT sT ty e:TypeId) (size n y:Nat) (hu:P.underlying dT=some (.slice e)) (hs:(P.info? e).map (·.size)=some size) (g:Nat) (L:List Value)
  (J:w.ownsRow base e size (.slice (some ⟨g,0,none⟩) n y) n L) (ad:Addr) (U:Nat) (cs:List Value) (hn:cs.length=n * size)
  (a0:∀ j v,cs[j]? = some v→w.cell? (ad.add j)=some v) (h1:∀ v ∈ cs,Value.oneCell' v=true):
  ∃ w',(Builtin.copy_ #[dT,sT] ty #[.slice (some ⟨g,0,none⟩) n y,.slice (some ad) n U]).run P w=.ok (goInt n) w'∧w'.ownsRow base e size (.slice (some ⟨g,0,none⟩) n y) n cs∧w.grownBy w' (some g):=by
 rcases J.2 with ⟨h,_⟩ | ⟨g',cap,I,hv,hb,hh,a1,a3,a6,_⟩
 ·cases h
 ·simp only [Value.slice.injEq,Option.some.injEq,Addr.mk.injEq,and_true,true_and] at hv
  obtain ⟨rfl,rfl⟩:=hv;have a7:n * size≤y * size:=Nat.mul_le_mul_right _ a1;have hl:=run_loadCells_list (P:=P) w ad cs a0;have a4:=run_storeCells_at P g 0 e cs 0 I w hh (by omega) h1;have a5:=setRow_heap w g I (I.toList.take (0+0) ++ cs ++ I.toList.drop (0+0+cs.length)).toArray e (0,0) hh;refine ⟨_,?_,⟨hn,.inr ⟨g,y,_,rfl,hb,a5,a1,a3,?_,?_⟩⟩,⟨rfl,rfl,rfl,by simp [World.setRow],fun k _ hk=>setRow_other w g k _ fun e=>hk (by rw [e])⟩⟩
  ·cases hq:P.info? e with
   | none=>simp [hq] at hs
   | some i=>
    have hi:i.size=size:=by simpa [hq] using hs
    have a2:Nat.min n n=n:=Nat.min_self n;simp [Builtin.copy_,run_underlying hu,Builtin.lenOf,Builtin.firstCells,sizeOf,typeInfo,hq,hi,a2,← hn,hl,a4]
  ·simp; omega
  ·simp [← hn]
theorem Gf {w:World} {J:Array Oper} {rest:List Oper} {o:Oper} {a:Act} {Q:Exit→Act→World→Prop} (a2:o.guard=none) (d s:Operand) (dT sT:TypeId)
  (ho:o.op=.call { callee:=.builtin .copy,args:=#[d,s],argTypes:=#[dT,sT] }) (base:Nat) (e:TypeId) (size n y:Nat) (hu:P.underlying dT=some (.slice e)) (a3:(P.info? e).map (·.size)=some size) (g:Nat) (L:List Value)
  (U:w.ownsRow base e size (.slice (some ⟨g,0,none⟩) n y) n L) (ad:Addr) (I:Nat) (cs:List Value) (hn:cs.length=n * size)
  (a0:∀ j v,cs[j]? = some v→w.cell? (ad.add j)=some v) (h1:∀ v ∈ cs,Value.oneCell' v=true)
  (hd:a.eval d=.slice (some ⟨g,0,none⟩) n y) (hs:a.eval s=.slice (some ad) n I)
  (h:∀ w',w'.ownsRow base e size (.slice (some ⟨g,0,none⟩) n y) n cs→w.grownBy w' (some g)→wpList P J Q rest (a.put o.dst (goInt n)) w'):wpList P J Q (o :: rest) a w:=by
 refine wpList_plain a2 fun K hK=>?_
 obtain ⟨w',a1,h2,h3⟩:=OI (P:=P) w base dT sT o.type e size n y hu a3 g L U ad I cs hn a0 h1;unfold Oper.wp;simp [execOp,ho,resolve,invoke,builtin,hd,hs,a1,Result.andThen];exact hK _ _ (h w' h2 h3)
theorem zJ {w:World} {base e size g:Nat} (y:w.heap[g]? = some (.cells #[] e (0,0))) (hb:base≤g):w.ownsRow base e size (.slice (some ⟨g,0,none⟩) 0 0) 0 []:=
 ⟨by simp,.inr ⟨g,0,#[],rfl,hb,y,ν,ε,by simp,by simp⟩⟩
structure aX {α:Type} (n:Nat) (R:Rel α) (base e:Nat) (w:World) (v:Value) (L:List Value) (xs:List α) (bs:List Nat):Prop where
 own:w.ownsRow base e n v xs.length L
 row:aT n R w L xs bs
 far:∀ b ∈ bs,v.ownBlock ≠ some b
section
variable {α:Type} {n:Nat} {R:Rel α} {base e:Nat}
theorem aX.nil (w:World):aX n R base e w (.slice none 0 0) [] ([]:List α) []:=⟨World.ownsRow_nil _ _ _ _,aT.nil,fun b hb=>by simp at hb⟩
theorem aX.empty {w:World} {g:Nat} (y:w.heap[g]? = some (.cells #[] e (0,0))) (hb:base≤g):aX n R base e w (.slice (some ⟨g,0,none⟩) 0 0) [] ([]:List α) []:=⟨zJ y hb,aT.nil,fun b hb=>by simp at hb⟩
theorem aX.below {w w':World} {v:Value} {L:List Value} {xs:List α} {bs:List Nat} (g:Good R) (h:aX n R base e w v L xs bs) (hb:Below w.heap.size w w'):aX n R base e w' v L xs bs:=
 ⟨own_below h.own hb,h.row.below g hb,h.far⟩
theorem aX.slice {w:World} {v:Value} {L:List Value} {xs:List α} {bs:List Nat} (h:aX n R base e w v L xs bs):∃ y,iU n R w [v] xs y∧∀ b ∈ y,base≤b∨b ∈ bs:=h.row.slice h.own
theorem aX.app {W w2:World} {v U:Value} {L M:List Value} {xs ys:List α} {bs b3:List Nat} (g:Good R) (h:aX n R base e W v L xs bs) (k:aT n R W M ys b3) (hf:∀ b ∈ b3,v.ownBlock ≠ some b)
  (I:w2.ownsRow base e n U (xs.length+ys.length) (L ++ M)) (y:W.grownBy w2 v.ownBlock) (J:U.ownBlock=v.ownBlock∨U.ownBlock=some W.heap.size):aX n R base e w2 U (L ++ M) (xs ++ ys) (bs ++ b3):=by
 have h1:=h.row.append k;refine ⟨by rw [χ]; exact I,h1.keep g fun b hb=>y.block b (h1.lt g b hb) ?_,fun b hb=>?_⟩
 ·rcases μ.1 hb with hb | hb
  ·exact (h.far b hb).symm
  ·exact (hf b hb).symm
 ·have a0:v.ownBlock ≠ some b:=by
   rcases μ.1 hb with hb | hb
   ·exact h.far b hb
   ·exact hf b hb
  have a1:=h1.lt g b hb
  rcases J with e | e
  ·rw [e]; exact a0
  ·rw [e]; intro e; injection e; omega
theorem jk {w:World} {size k:Nat} {v:Value} {L:List Value} (h:w.ownsRow base e size v k L) {b:Nat} (hb:w.heap.size≤b):v.ownBlock ≠ some b:=by
 rcases h.2 with ⟨rfl,_⟩ | ⟨g,cap,y,rfl,_,I,_⟩
 ·simp [Value.ownBlock]
 ·intro J
  have:g=b:=by simpa [Value.ownBlock] using J
  have:=ψ I;omega
theorem aO {w:World} {size k:Nat} {v:Value} {L:List Value} (h:w.ownsRow base e size v k L) {b:Nat} (hb:b < base):v.ownBlock ≠ some b:=by
 rcases h.2 with ⟨rfl,_⟩ | ⟨g,cap,y,rfl,J,_⟩
 ·simp [Value.ownBlock]
 ·intro I
  have:g=b:=by simpa [Value.ownBlock] using I
  omega
theorem iQ {y w I:World} {B size k:Nat} {v:Value} {L:List Value} (hb:Below B y w) (h:w.ownsRow base e size v k L) (hB:B≤base) (U:B≤w.heap.size) (hg:w.grownBy I v.ownBlock):Below B y I:=
 hb.grown hg U fun k J=>by
  rcases h.2 with ⟨rfl,_⟩ | ⟨g,cap,a0,rfl,a1,_⟩
  ·simp [Value.ownBlock] at J
  ·have:g=k:=by simpa [Value.ownBlock] using J
   omega
end
theorem bU {α:Type} {R:Rel α} {w:World} {U:Array Oper} {rest:List Oper} {o:Oper} {a:Act} {Q:Exit→Act→World→Prop} (a1:o.guard=none) (s x:Operand) (t:TypeId)
  (ho:o.op=.call { callee:=.builtin .append,args:=#[s,x],argTypes:=#[t,t] })
  (base:Nat) (e:TypeId) (i:TypeInfo) (z:Value) (size bytes:Nat) (ht:P.underlying t=some (.slice e)) (hi:P.info? e=some i) (hz:i.zero=some z)
  (J:i.size=size) (a2:i.bytes=bytes) (a3:z.cells.size=size) (a4:0 < size) (g:Good R)
  (v:Value) (k:Nat) (L:List Value) (xs:List α) (bs:List Nat) (hs:a.eval s=v) (hC:aX size R base e w v L xs bs) (hk:xs.length=k)
  (Ad:Option Addr) (m c:Nat) (M:List Value) (ys:List α) (b3:List Nat) (hx:a.eval x=.slice Ad m c) (hR:aT size R w M ys b3) (hm:ys.length=m) (hL:Lies w Ad M) (hf:∀ b ∈ b3,v.ownBlock ≠ some b)
  (a5:k+m≤maxLen) (I:(k+m) * bytes≤140737488355328) (w0:World) (B:Nat) (hB:Below B w0 w) (a0:B≤base) (y:base≤w.heap.size)
  (h:∀ A cap w',aX size R base e w' (.slice A (k+m) cap) (L ++ M) (xs ++ ys) (bs ++ b3)→Below B w0 w'→base≤w'.heap.size→w.grownBy w' v.ownBlock→wpList P U Q rest (a.put o.dst (.slice A (k+m) cap)) w'):wpList P U Q (o :: rest) a w:=by
 subst hk hm;refine wW a1 s x t ho base e i z size bytes ht hi hz J a2 a3 a4 v xs.length L hs hC.own Ad ys.length c M hx hR.len hL hR.one a5 I y fun A cap w' h2 h3 h4=>?_
 exact h A cap w' (hC.app g hR hf h2 h3 h4) (iQ hB hC.own a0 (τ a0 y) h3) (τ y h3.size) h3
theorem aV {α:Type} {R:Rel α} {w:World} {a0:Array Oper} {o:Oper} {a:Act} {K:Act→World→Prop} {Q:Exit→Act→World→Prop} {E:Prop} (a1:o.guard=none) (s x:Operand) (t:TypeId)
  (ho:o.op=.call { callee:=.builtin .append,args:=#[s,x],argTypes:=#[t,t] })
  (base:Nat) (e:TypeId) (i:TypeInfo) (z:Value) (size bytes:Nat) (ht:P.underlying t=some (.slice e)) (hi:P.info? e=some i) (hz:i.zero=some z)
  (J:i.size=size) (a2:i.bytes=bytes) (a3:z.cells.size=size) (a4:0 < size) (g:Good R)
  (v:Value) (k:Nat) (L:List Value) (xs:List α) (bs:List Nat) (hs:a.eval s=v) (hC:aX size R base e w v L xs bs) (hk:xs.length=k)
  (Ad:Option Addr) (m c:Nat) (M:List Value) (ys:List α) (b3:List Nat) (hx:a.eval x=.slice Ad m c) (hR:aT size R w M ys b3) (hm:ys.length=m) (hL:Lies w Ad M) (hf:∀ b ∈ b3,v.ownBlock ≠ some b)
  (a5:k+m≤maxLen) (I:(k+m) * bytes≤140737488355328) (w0:World) (B:Nat) (hB:Below B w0 w) (U:B≤base) (y:base≤w.heap.size)
  (h:∀ A cap w',aX size R base e w' (.slice A (k+m) cap) (L ++ M) (xs ++ ys) (bs ++ b3)→Below B w0 w'→base≤w'.heap.size→w.grownBy w' v.ownBlock→K (a.put o.dst (.slice A (k+m) cap)) w'):if Region.wanted o (yielded a0 a.tmps)=true then Oper.wp P o a w K Q else E:=by
 subst hk hm;refine iJ a1 s x t ho base e i z size bytes ht hi hz J a2 a3 a4 v xs.length L hs hC.own Ad ys.length c M hx hR.len hL hR.one a5 I y fun A cap w' h2 h3 h4=>?_
 exact h A cap w' (hC.app g hR hf h2 h3 h4) (iQ hB hC.own U (τ U y) h3) (τ y h3.size) h3
theorem aP {w:World} {g:Nat} {cs:Array Value} {t:TypeId} {fr:Nat × Nat} (h:w.heap[g]? = some (.cells cs t fr)):Lies w (some ⟨g,0,none⟩) cs.toList:=
 Lies.mk fun j u y=>by
  rw [Nat.zero_add,cell_of_row w g j cs t fr h];simpa using y
def Reads {α:Type} (R:Rel α) (x:α) (B:Nat) (w:World) (e:Ending) (w':World):Prop:=Below B w w'∧∃ v bs,e=.returned v∧R w' [v] x bs
def UA {α:Type} (R:Rel α) (x:α) (B:Nat) (w:World) (e:Ending) (w':World):Prop:=Below B w w'∧∃ cs bs,e=.returned (.agg cs)∧R w' cs.toList x bs
end D
end
section
open Go.RowKit D
namespace D
structure aI (bs:List Nat) (w w':World):Prop where
 os:w'.os=w.os
 tape:w'.tape=w.tape
 output:w'.output=w.output
 size:w.heap.size≤w'.heap.size
 block:∀ k,k < w.heap.size→k ∉ bs→w'.heap[k]? = w.heap[k]?
theorem aI.refl (bs:List Nat) (w:World):aI bs w w:=⟨rfl,rfl,rfl,ν,fun _ _ _=>rfl⟩
theorem aI.trans {bs:List Nat} {a b c:World} (h:aI bs a b) (k:aI bs b c):aI bs a c:=
 ⟨k.os.trans h.os,k.tape.trans h.tape,k.output.trans h.output,τ h.size k.size,fun n hn hb=>(k.block n (κ hn h.size) hb).trans (h.block n hn hb)⟩
theorem aI.of_below {bs:List Nat} {w w':World} (h:Below w.heap.size w w'):aI bs w w':=⟨h.os,h.tape,h.output,h.size,fun k y _=>h.block k y⟩
theorem aI.drew {bs:List Nat} {a w:World} (h:aI bs a w):aI bs a w.drew:=⟨h.os,h.tape,h.output,h.size,h.block⟩
theorem aI.below {bs:List Nat} {B:Nat} {w w':World} (h:aI bs w w') (hb:∀ b ∈ bs,B≤b) (hB:B≤w.heap.size):Below B w w':=
 ⟨h.os,h.tape,h.output,h.size,fun k y=>h.block k (by omega) fun hm=>by have:=hb k hm; omega⟩
theorem Good.kept {α:Type} {R:Rel α} (g:Good R) {bs y:List Nat} {w w':World} {cs:List Value} {x:α} (h:R w cs x y) (I:aI bs w w') (J:∀ b ∈ y,b ∉ bs):R w' cs x y:=
 g.keep h fun b hb=>I.block b (g.lt h b hb) (J b hb)
theorem apart {bs y:List Nat} {B:Nat} (h1:∀ b ∈ bs,b < B) (I:∀ b ∈ y,B≤b):∀ b ∈ bs,b ∉ y:=fun b hb hc=>by have:=h1 b hb; have:=I b hc; omega
def YT (w:World) (b:Nat):Prop:=∃ y e,w.heap[b]? = some (.cells y e (0,0))
theorem New.Zg {B:Nat} {w:World} {bs:List Nat} (h:New B w bs):∀ b ∈ bs,YT w b:=fun b hb=>(h.own b hb).2
theorem YT.setCell {w:World} {b:Nat} (h:YT w b) (p:Addr) (u:Value):YT (w.setCell p u) b:=by
 obtain ⟨y,e,h⟩:=h;by_cases hb:b=p.block
 ·obtain ⟨J,U,pp⟩:=p
  dsimp only at hb;subst hb;have I:=ψ h;have h':w.heap[b]=.cells y e (0,0):=by simpa [Array.getElem?_eq_getElem I] using h
  unfold YT;show ∃ y e,(w.heap.modify b _)[b]? = _;rw [Array.getElem?_modify,if_pos rfl,h];exact ⟨_,_,rfl⟩
 ·exact ⟨y,e,by rw [π _ _ _ _ hb]; exact h⟩
end D
end
section
open Go.RowKit D
theorem D.G6 {a:A} (h:dI a=true):a.args.length≤3:=by
 unfold dI aZ at h;simp only [ο,decide_eq_true_eq] at h;exact h.1.1.2
theorem D.uw {w:World} {g:Nat}:aC w [.slice (some ⟨g,0,none⟩) 0 0] [] []:=⟨_,0,rfl,ν,ε,fun _=>rfl,fun h=>absurd rfl h⟩
theorem D.aI.dB {g:Nat} {w w':World} (h:w.grownBy w' (some g)):aI [g] w w':=
 ⟨h.os,h.tape,h.output,h.size,fun k y hb=>h.block k y (fun e=>hb (by injection e with e; simp [e]))⟩
theorem D.aX.mono {α:Type} {n:Nat} {R:Rel α} {base y e:Nat} {w:World} {v:Value} {L:List Value} {xs:List α} {bs:List Nat} (h:aX n R base e w v L xs bs) (hb:y≤base):aX n R y e w v L xs bs:=
 ⟨⟨h.own.1,h.own.2.imp id fun ⟨g,cap,I,e,J,r⟩=>⟨g,cap,I,e,τ hb J,r⟩⟩,h.row,h.far⟩
theorem D.aX.KG {α:Type} {n:Nat} {R:Rel α} {base e r:Nat} {w w':World} {v:Value} {L:List Value} {xs:List α} {bs:List Nat} (J:Good R) (h:aX n R base e w v L xs bs) (U:aI [r] w w') (hr:r < base) (hb:r ∉ bs):aX n R base e w' v L xs bs:=
 ⟨⟨h.own.1,h.own.2.imp id fun ⟨g,cap,I,e,hg,hh,rest⟩=>⟨g,cap,I,e,hg,(U.block g (ψ hh) (by simp; omega)).trans hh,rest⟩⟩,h.row.keep J fun b y=>U.block b (h.row.lt J b y) (by simp; intro e; exact hb (e ▸ y)),h.far⟩
theorem D.aX.l9 {α:Type} {n:Nat} {R:Rel α} {base e b o:Nat} {w:World} {u v:Value} {L:List Value} {xs:List α} {bs:List Nat} (J:Good R) (h:aX n R base e w v L xs bs) (hr:v.ownBlock ≠ some b) (hb:b ∉ bs):aX n R base e (w.setCell ⟨b,o,none⟩ u) v L xs bs:=
 ⟨⟨h.own.1,h.own.2.imp id fun ⟨g,cap,y,e,U,hh,rest⟩=>⟨g,cap,y,e,U,(π _ _ _ _ (by intro e'; subst e'; subst e; exact hr rfl)).trans hh,rest⟩⟩,h.row.keep J fun c I=>π _ _ _ _ (by intro e; apply hb; have e2:c=b:=e; rw [← e2]; exact I),h.far⟩
theorem gV {w:World} {base e size n b:Nat} {v:Value} {L:List Value} {cs:Array Value} {t:TypeId} {fr:Nat × Nat} (h:w.ownsRow base e size v n L) (hb:w.heap[b]? = some (.cells cs t fr)) (I:t ≠ e):v.ownBlock ≠ some b:=by
 rcases h.2 with ⟨rfl,_⟩ | ⟨g,cap,J,rfl,_,y,_⟩
 ·simp [Value.ownBlock]
 ·intro U
  have:g=b:=by simpa [Value.ownBlock] using U
  subst this;rw [hb] at y; injection y with y; injection y with _ h2; exact I h2
theorem D.aI.zK {bs:List Nat} {a w:World} (h:aI bs a w) {p:Addr} (I:a.heap.size≤p.block) (u:Value):aI bs a (w.setCell p u):=
 ⟨h.os,h.tape,h.output,by simp [World.setCell]; exact h.size,fun k y hb=>(π _ _ _ _ (by omega)).trans (h.block k y hb)⟩
theorem D.aI.eP {bs:List Nat} {a w w':World} {N:Nat} (h:aI bs a w) (hb:Below N w w') (J:a.heap.size≤N):aI bs a w':=
 ⟨hb.os.trans h.os,hb.tape.trans h.tape,hb.output.trans h.output,τ h.size hb.size,fun k I y=>(hb.block k (by omega)).trans (h.block k I y)⟩
theorem kZ (w:World) (y I:Obj):((w.alloc y).alloc I).heap[w.heap.size]? = some y∧((w.alloc y).alloc I).heap[w.heap.size+1]? = some I:=by
 refine ⟨(Below.heap_alloc _ _ _ (by simp)).trans (ω _ _),?_⟩;have:=ω (w.alloc y) I;simpa using this
theorem ai {w:World} {b o:Nat} {cs:Array Value} {t:TypeId} (h:w.heap[b]? = some (.cells cs t (0,0))):w.cell? ⟨b,o,none⟩=cs[o]?:=by simp [World.cell?,h]
theorem ax {w:World} {b o:Nat} {cs:Array Value} {t:TypeId} (h:w.heap[b]? = some (.cells cs t (0,0))):w.frozen? ⟨b,o,none⟩=false:=by simp [World.frozen?,h]
theorem vO {w:World} {b:Nat} {x y u:Value} {t:TypeId} (h:w.heap[b]? = some (.cells #[x,y] t (0,0))):(w.setCell ⟨b,1,none⟩ u).heap[b]? = some (.cells #[x,u] t (0,0)):=by
 have I:=ψ h;have J:w.heap[b]=.cells #[x,y] t (0,0):=by simpa [Array.getElem?_eq_getElem I] using h
 show (w.heap.modify b _)[b]? = _;rw [Array.getElem?_eq_getElem (by simpa using I),Array.getElem_modify_self,J];rfl
theorem qJ {w:World} {b:Nat} {x y u:Value} {t:TypeId} (h:w.heap[b]? = some (.cells #[x,y] t (0,0))):(w.setCell ⟨b,0,none⟩ u).heap[b]? = some (.cells #[u,y] t (0,0)):=by
 have I:=ψ h;have J:w.heap[b]=.cells #[x,y] t (0,0):=by simpa [Array.getElem?_eq_getElem I] using h
 show (w.heap.modify b _)[b]? = _;rw [Array.getElem?_eq_getElem (by simpa using I),Array.getElem_modify_self,J];rfl
theorem D.KH {α:Type} {n:Nat} {R:Rel α} {w w':World} {Ad:Option Addr} {L:List Value} {xs:List α} {U bs:List Nat} (h:aT n R w L xs U) (hn:0 < n)
  (hs:xs ≠ []→∃ b o,Ad=some ⟨b,o,none⟩∧b ∈ bs∧∀ j u,L[j]? = some u→w.cell? ⟨b,o+j,none⟩=some u) (y:∀ b ∈ bs,b < w.heap.size) (hb:Below w.heap.size w w'):Lies w' Ad L:=by
 by_cases J:xs = []
 ·have:L = []:=List.length_eq_zero_iff.1 (by rw [h.len,J]; simp)
  rw [this]; exact Lies.nil _ _
 ·obtain ⟨b,o,rfl,I,hc⟩:=hs J
  exact Lies.mk fun j u hj=>(hb.cell (p:=⟨b,o+j,none⟩) (y b I)).trans (hc j u hj)
theorem D.own_ne {a b o n c:Nat} (h:a ≠ b):(some a:Option Nat) ≠ (Value.slice (some ⟨b,o,none⟩) n c).ownBlock:=fun e=>h (by simpa [Value.ownBlock] using e)
theorem bY {w:World} {b o:Nat} {cs:Array Value} {u:Value} {t:TypeId} (h:w.heap[b]? = some (.cells cs t (0,0))):(w.setCell ⟨b,o,none⟩ u).heap[b]? = some (.cells (cs.setIfInBounds o u) t (0,0)):=by
 have y:=ψ h;have I:w.heap[b]=.cells cs t (0,0):=by simpa [Array.getElem?_eq_getElem y] using h
 show (w.heap.modify b _)[b]? = _;rw [Array.getElem?_eq_getElem (by simpa using y),Array.getElem_modify_self,I];rfl
end
end Go.Proofs.YtkjinanbccloeaaGreatDoor
