/- A run. -/
import Derived.Test.YteiolnofaebknaaMc
set_option linter.unusedSimpArgs false
set_option linter.unusedVariables false
set_option maxRecDepth 20000
set_option maxHeartbeats 4000000
namespace Go.Ab
open Go.Proofs
def sayP (x:SD) (F:List Int) (t:Int) (A:Int×List PT):Int×List PT:=if (sayM x).2=0 then (A.1+1,sIns F A.1 t (sayM x).1 A.2) else A
def outP (t:Int) (s:List PT):List tChoice.den:=(s.takeWhile (dueT t)).map (fun x=>x.2.2)
abbrev CY:=SD×SD×(Int×List PT)×(Int×List PT)
def cycP (Fa Fb:List Int) (t:Int) (w:Int×Int) (c:CY):CY:=
 (recvM (chooseM c.1 w.1).1 (outP t (sayP (chooseM c.2.1 w.2).1 Fb t c.2.2.2).2),recvM (chooseM c.2.1 w.2).1 (outP t (sayP (chooseM c.1 w.1).1 Fa t c.2.2.1).2),
  ((sayP (chooseM c.1 w.1).1 Fa t c.2.2.1).1,(sayP (chooseM c.1 w.1).1 Fa t c.2.2.1).2.dropWhile (dueT t)),((sayP (chooseM c.2.1 w.2).1 Fb t c.2.2.2).1,(sayP (chooseM c.2.1 w.2).1 Fb t c.2.2.2).2.dropWhile (dueT t)))
def runP (Fa Fb:List Int):Int→List (Int×Int)→CY→List (SD×SD)
 | _,[],_=>[]
 | t,w :: l,c=>((cycP Fa Fb t w c).1,(cycP Fa Fb t w c).2.1) :: runP Fa Fb (t+1) l (cycP Fa Fb t w c)
theorem runP_len (Fa Fb:List Int):∀ (l:List (Int×Int)) (t:Int) (c:CY),(runP Fa Fb t l c).length=l.length
 | [],_,_=>rfl
 | w :: l,t,c=>by simp[runP,runP_len Fa Fb l]
structure LK (T M now sent:Int) (N n:Nat) (q s:List PT):Prop where
 sq:SQ q n s
 len:q.length=N
 num:∀ y∈s,y.2.1<sent
 few:(s.length:Int)≤sent
 lo:0≤sent
 hi:sent≤T
 n0:0≤now
 nM:now≤M
theorem say_lcheck {x:SD} (h:(sayM x).2=0):lcheckM (sayM x).1=0:=by
 unfold sayM at h ⊢
 split at h
 ·rename_i hc;exact absurd h hc
 ·rename_i hc
  split at h
  ·cases h
  ·rename_i hn
   rw[if_neg hc,if_neg hn]
   have hc':checkM x=0:=by simpa using hc
   clear hc h
   have hn':¬ x.2.2.2.1=0:=hn
   simp only[checkM]at hc'
   show (if x.1<0∨x.1>16777215∨x.2.1<0∨x.2.1>16777215∨x.1=x.2.1 then (1:Int) else if x.2.2.1>2 then 6 else if x.2.2.2.1<1∨x.2.2.2.1>1048575 then 1 else 0)=0
   repeat' split at hc'
   all_goals first | omega | (rw[if_neg (by omega),if_neg (by omega),if_neg (by omega)])
theorem LK.send {t now sent:Int} {N n:Nat} {q s:List PT} {x:SD} {F:List Int} {now' sent':Int} {N' n':Nat} {q':List PT} (h:LK t t now sent N n q s) (h0:0≤t) (h1:t<64) (hs:SNT x F now sent N n q t now' sent' N' n' q') :
  sent'=(sayP x F t (sent,s)).1∧LK (t+1) t now' sent' N' n' q' (sayP x F t (sent,s)).2:=by
 unfold sayP
 by_cases hc:(sayM x).2=0
 ·obtain ⟨a1,a2,a3,a4,a5⟩:=hs.yes hc
  have hl:=h.sq.len
  have:=h.few;have:=h.hi;have:=h.n0;have:=h.nM;have:=h.lo
  obtain ⟨-,b2,b3,b4,b5,b6⟩:=h.sq.send (F:=F) (now:=now) (t:=t) (c:=(sayM x).1) h.len h.num (by unfold atM;rw[if_neg (by omega),if_neg (by omega)]) (say_lcheck hc) (by omega)
  rw[if_pos hc]
  subst a1 a2 a3 a4 a5
  dsimp only
  refine ⟨b3,b4,b5,?_,?_,?_,?_,?_,?_⟩
  ·intro y hy
   rw[b3]
   unfold sIns at hy
   split at hy
   ·have:=h.num y hy;omega
   ·rcases List.mem_cons.1 ((insP_perm _ _).mem_iff.1 hy) with rfl | hy
    ·show sent<sent+1;omega
    ·have:=h.num y hy;omega
  ·rw[b3]
   unfold sIns
   split
   ·omega
   ·rw[(insP_perm _ _).length_eq,List.length_cons];omega
  ·omega
  ·omega
  ·have:sendNow F now sent n t (sayM x).1=t:=b2
   rw[this];omega
  ·have:sendNow F now sent n t (sayM x).1=t:=b2
   rw[this];exact Int.le_refl _
 ·obtain ⟨rfl,rfl,rfl,rfl,rfl⟩:=hs.no hc
  rw[if_neg hc]
  exact ⟨rfl,h.sq,h.len,h.num,h.few,h.lo,by have:=h.hi;omega,h.n0,h.nM⟩
theorem LK.hear {t now sent:Int} {N n:Nat} {q s:List PT} (h:LK (t+1) t now sent N n q s) (h0:0≤t) (h1:t<64) :
  HEARK now t N n q∧hearO t n q=outP t s∧(hearO t n q).length≤64∧LK (t+1) (t+1) t sent N (hearN t n q) (hearQ t n q) (s.dropWhile (dueT t)):=by
 have hl:=h.sq.len
 have:=h.few;have:=h.hi;have:=h.n0;have:=h.nM;have:=h.lo
 have hle:=h.sq.le
 obtain ⟨a1,a2,a3,a4⟩:=h.sq.hears (t:=t)
 have hsub:(s.takeWhile (dueT t)).length≤s.length:=(List.takeWhile_sublist _).length_le
 have hsub2:(s.dropWhile (dueT t)).length≤s.length:=(List.dropWhile_sublist _).length_le
 refine ⟨⟨by unfold atM;rw[if_neg (by omega),if_neg (by omega)],h.len,by rw[←h.len];exact hle,by omega⟩,a1,by rw[a1,List.length_map];omega,a3,by rw[a4,h.len],fun y hy=>h.num y ((List.dropWhile_sublist _).subset hy),by omega,by omega,by omega,by omega,by omega⟩
theorem LK.sendk {t now sent:Int} {N n:Nat} {q s:List PT} {F:List Int} (h:LK t t now sent N n q s) (h1:t<64) (hF:∀ i,-1≤gtR tI F i∧gtR tI F i≤8):SENDK F sent N n q:=by
 have hl:=h.sq.len
 have:=h.few;have:=h.hi;have:=h.n0;have:=h.nM;have:=h.lo
 exact ⟨h.len,by rw[←h.len];exact h.sq.le,by omega,by omega,by omega,hF⟩
theorem INB.lit {ic:Nat→Int} (h:ic=fun n:Nat=>(n:Int)) {k:Int} {n:Nat} (hk:0≤k∧k<(n:Int)):INB k (ic n):=by subst h;exact ⟨hk.1,hk.2⟩
theorem CASE.no {k:Int} {m:Nat} {A:Prop} (h:k≠(m:Int)):CASE k m A:=⟨fun e=>absurd e h⟩
theorem CASE.yes {k:Int} {m:Nat} {A:Prop} (h:A):CASE k m A:=⟨fun _=>h⟩
theorem BR.ltT {cmp:BinOp→Int→Int→Bool} (h:cmp=cmpR) {x y:Int} {A B:Prop} (hxy:x<y) (a:A):BR (cmp .lss x y) A B:=BR.lss h (fun _=>a) (fun hn=>absurd hxy hn)
theorem BR.ltF {cmp:BinOp→Int→Int→Bool} (h:cmp=cmpR) {x y:Int} {A B:Prop} (hxy:¬ x<y) (b:B):BR (cmp .lss x y) A B:=BR.lss h (fun hn=>absurd hn hxy) (fun _=>b)
def nI:Nat→Int
 | 0=>0
 | 1=>1
 | 2=>2
 | _=>3
theorem fates_b {l:List Int} (h:wrongM l=0):∀ i,-1≤gtR tI (fatesM l) i∧gtR tI (fatesM l) i≤8:=fun i=>by
 have hm:∀ x∈fatesM l,-1≤x∧x≤8:=fun x hx=>by
  rcases List.mem_append.1 hx with hx | hx
  ·exact wrong_ok h x hx
  ·have:=List.eq_of_mem_replicate hx;omega
 unfold gtR
 rw[List.getD_eq_getElem?_getD]
 cases hc:(fatesM l)[i.toNat]? with
 | none=>exact ⟨by decide,by decide⟩
 | some v=>exact hm v (List.mem_of_getElem? hc)
def stRW (x y:SD) (tx ty wx wy:Int) (Fa:List Int) (na ua:Int) (Na la:Nat) (qa:List tPar.den) (Fb:List Int) (nb ub:Int) (Nb lb:Nat) (qb:List tPar.den) (w1 w2:Int) (g:List (Nat×Nat)):StS:=
 ⟨[{ cells:=pty x 1 4 tx wx ++ pty y 4 1 ty wy,e:=85,fz:=false },bLink Fa na ua 2,bWay 3 la,bArr Na qa,bLink Fb nb ub 5,bWay 6 lb,bArr Nb qb,{ cells:=[.p (.v (.int .u8 w1)),.p (.v (.int .u8 w2))],e:=46,fz:=false }],g⟩
abbrev tMeet:Ty:=.pair tSide tSide
end Go.Ab
