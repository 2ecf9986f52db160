/- Profiles. -/
import Derived.Test.YtlmdgmppeacobaaGreatLE
set_option linter.unusedSimpArgs false
set_option linter.unusedVariables false
set_option maxRecDepth 20000
set_option maxHeartbeats 4000000
namespace Go.Ab
open Go.Proofs Go.RowKit
abbrev bxC (n:Nat) (l:List RT):BoxS:={ cells:=[.arr n tR l],e:=49,fz:=false,ap:=true }
def ccD:Option Nat→DC
 | none=>.tl (some true) tR []
 | some n=>.ms 0 0 3 none n
def ccB:Option Nat→List RT→List BoxS
 | none,_=>[]
 | some n,O=>[bxC n O]
theorem cColM (nl:Option Bool) (l:List RS) (b:Int) (n:Nat) (R:List RT) (hR:R=colL l b) (hn:n=l.length) (hn0:0<n) (h:CLM l b):FnS Tryz.prog 70 ([injT (.sl tRs) (nl,l),injT tI b]) (⟨[],[]⟩ ) fun x_ s_=>x_=(.ms 0 0 3 none n)∧s_=(⟨[bxC n R],[]⟩):=by
 refine FnS.of (S:=[]) (T:=[]) (U:=[]) (tbl:=[]) (n:=23) hm31 cfg .nil .nil .nil .nil 0 Tryz.call70 Tryz.func70 (ac70_ok (some (0,0))) (by rw[Tryz.ntmps70];exact Nat.le_refl _) rfl _ _ _ (by rfl) ?_
 intro cmp ar cv tn ic ai mx an ad ml sb mn ln em gt up ap sc vw cp rp p1 p2 s1 s2 X Y hX hY r0 r1 r2 r3 r4 r5 r6 r7 r8 r9 r10 r11 r12 r13 r14 r15 r16 r17 r18 r19 r20 r21 r22 r23 r24
 cbv
 have b0:=h.b0
 have hlm:=h.n
 obtain ⟨N,hN⟩:∃ N:Int,N=l.length:=⟨_,rfl⟩
 have hll:ic (ln tRs l)=N:=by rw[r4,r12,hN]
 rw[hll]
 refine LOOP.ind (σ:=(Option Nat×List RT)×Int) (fun ((o,O),i)=>[(1,.p (iv b)),(5,ccD o),(8,.tl nl tRs l),(9,.p (iv N)),(10,.p (iv i))]) (fun ((o,O),i)=>⟨ccB o O,[]⟩) (fun (_,i)=>(N - i).toNat)
  (fun ((o,O),i)=>0≤i∧i≤N∧O.length=i∧O ++ colL (l.drop i.toNat) b=R∧(o=none→i=0)∧∀ k,o=some k→k=O.length) ((none,[]),0) ⟨by omega,by show (0:Int)≤N;omega,rfl,by rw[hR];rfl,fun _=>rfl,fun k hk=>by cases hk⟩ (.inr ⟨[],[],?_⟩) ?_
 ·rw[SIM_iff];cbv;try simp[nlLe_self,lstEq]
 intro ⟨⟨o,O⟩,i⟩ ⟨i0,i1,i3,i2,i4,i5⟩ X' hX
 obtain ⟨r,hr⟩:∃ r,r=s2 tR (gt tRs l i):=⟨_,rfl⟩
 have hr':r=(gtR tRs l i).2:=by rw[hr,r24,r14]
 obtain ⟨rn,hrn⟩:∃ rn:Int,rn=r.length:=⟨_,rfl⟩
 have hrl:ic (ln tR r)=rn:=by rw[r4,r12,hrn]
 have hrb:i<l.length→b<rn:=fun h1=>by rw[hrn,hr'];exact h.h _ (gtR_mem (t:=tRs) i0 h1)
 obtain ⟨x,hx⟩:∃ x:RT,x=gt tR r b:=⟨_,rfl⟩
 have hst:i<l.length→colL (l.drop i.toNat) b=x :: colL (l.drop (i+1).toNat) b:=fun h1=>by rw[gtR_drop (t:=tRs) i0 h1,hx,r14,hr'];rfl
 have hse:¬ i<l.length→colL (l.drop i.toNat) b=[]:=fun h1=>by rw[gtR_end h1];rfl
 have hi1:i<l.length→ar .add .i64 i 1=i+1:=fun h1=>by rw[r1];exact wrap64 (n:=i+1) (by omega) (by omega)
 obtain ⟨y,hy⟩:∃ y:RT,y=(p1 .bool (.pair tN tN) x,(s1 tW (p1 tN tN (p2 .bool (.pair tN tN) x)),s2 tW (p1 tN tN (p2 .bool (.pair tN tN) x))),(s1 tW (p2 tN tN (p2 .bool (.pair tN tN) x)),s2 tW (p2 tN tN (p2 .bool (.pair tN tN) x)))):=⟨_,rfl⟩
 have hyx:y=x:=by rw[hy,r21,r22,r23,r24]
 have hap:ap tR O [y]=O ++ [y]:=by rw[r16]
 have hl1:ln tR [y]=1:=by rw[r12];rfl
 have hEQ:EQN (ml (ln tR O) 3) (ml (ln tR O) 3):=⟨rfl⟩
 have hOl:(O ++ [y]).length=O.length+1:=by rw[List.length_append];rfl
 obtain ⟨C,hC⟩:∃ C,C=colL (l.drop (i+1).toNat) b:=⟨_,rfl⟩
 rw[←hC]at hst
 rcases o with _ | k
 ·have hi0:i=0:=i4 rfl
  have hO:O=[]:=List.eq_nil_of_length_eq_zero (by omega)
  cbv
  try simp only[nc_eq]at *
  rw[hll,←hr,hrl,←hx]
  try rw[←hy]
  rw[hl1]
  refine BR.lss r0 (fun h1=>?_) (fun h1=>absurd h1 (by omega))
  have h1':i<l.length:=by omega
  have hI:INB i N:=⟨i0,h1⟩
  have hB:INB b rn:=⟨b0,hrb h1'⟩
  rw[hi1 h1']
  refine ⟨hI,hI,hB,hB,⟨Nat.le_refl _⟩,LIM_iff.2 ⟨by omega,by omega⟩,NEXT.mk (hX ((some 1,[y]),i+1) _ _ ⟨by show (0:Int)≤i+1;omega,by show i+1≤N;omega,by show ((1:Nat):Int)=i+1;omega,?_,fun h=>by (cases h),fun k h=>by cases h;rfl⟩ (by show (N - (i+1)).toNat<(N - i).toNat;omega) (.inl ⟨rfl,rfl⟩))⟩
  show [y] ++ colL (l.drop (i+1).toNat) b=R
  rw[←i2,hO,hst h1',←hC,hyx];rfl
 ·have hk:k=O.length:=i5 k rfl
  have hvO:vw tR k O 0 k=O:=by rw[r18];exact vw_all (t:=tR) hk.symm
  have had:ad k 1=k+1:=by rw[r8]
  cbv
  try simp only[nc_eq]at *
  rw[hll,←hr,hrl,←hx]
  try rw[←hy]
  rw[hl1,had,hvO,hap]
  refine BR.lss r0 (fun h1=>?_) (fun h1=>?_)
  ·have h1':i<l.length:=by omega
   have hI:INB i N:=⟨i0,h1⟩
   have hB:INB b rn:=⟨b0,hrb h1'⟩
   rw[hi1 h1']
   refine ⟨hI,hI,hB,hB,⟨Nat.le_refl _⟩,LIM_iff.2 ⟨by omega,by omega⟩,NEXT.mk (hX ((some (k+1),O ++ [y]),i+1) _ _ ⟨by show (0:Int)≤i+1;omega,by show i+1≤N;omega,by show ((O ++ [y]).length:Int)=i+1;omega,?_,fun h=>by (cases h),fun k' h=>by cases h;show k+1=(O ++ [y]).length;omega⟩ (by show (N - (i+1)).toNat<(N - i).toNat;omega) (.inr ⟨[some 1],[],?_⟩))⟩
   ·show (O ++ [y]) ++ colL (l.drop (i+1).toNat) b=R
    rw[←i2,hst h1',←hC,hyx,List.append_assoc];rfl
   ·rw[SIM_iff];cbv;try simp[nlLe_self]
  ·have hRO:R=O:=by rw[←i2,hse (by omega),List.append_nil]
   have hkn:k=n:=by omega
   subst hkn
   rw[hRO]
   refine RET.mk ⟨[some 0],[],?_⟩
   rw[SIM_iff];cbv
   try simp[lstEq,nlLe_self]
structure COLK (l:List RS) (b:Int) (k:Nat→List RT→Prop):Prop where
 p:CLM l b
 n0:l≠[]
 h:∀ n C,n=l.length→C=colL l b→k n C
def spCol:OpsS→CallS:=fun _ _ ds st K=>match ds with
 | [.tl nl t l,.p (.v (.int .i64 b))]=>(match castL tRs t l with
  | some l=>COLK l b fun n C=>frS [] [] [.tl nl tRs l,.p (iv b)] ⟨[],[]⟩ (.ms 0 0 3 none n) ⟨[bxC n C],[]⟩ [.tl nl tRs l,.p (iv b)] st K
  | none=>False)
 | _=>False
theorem cColT:∀ ds st K,spCol OpsS.real 70 ds st K→FnS Tryz.prog 70 ds st K:=fun ds st K h=>by
 unfold spCol at h
 split at h <;> first | exact h.elim | skip
 split at h <;> first | exact h.elim | skip
 rename_i l0 b l hl
 obtain ⟨rfl,e⟩:=castL_eq hl
 obtain rfl:=eq_of_heq e
 exact frS_ok (cColM _ _ _ _ _ rfl rfl (List.length_pos_iff.2 h.n0) h.p) (h.h _ _ rfl rfl)
structure SRTK (n N:Nat) (l:List RT) (k:List RT→Prop):Prop where
 hN:N=n
 hl:l.length=n
 h0:0<n
 h1:n<4611686018427387904
 hv:∀ x∈l,VT x
 hk:∀ S,S=srtD (cpRs l)→k S
def spSort:OpsS→CallS:=fun _ _ ds st K=>match ds with
 | [.ms i 0 sz none n,.fn (.func g) [] []]=>(match nthD st.box i with
  | some B=>(match B.cells with
   | [.arr N t l]=>(match castL tR t l with
    | some l=>g=78∧sz=3∧B.fz=false∧B.m=false∧SRTK n N l fun S=>K (.p (.tup [])) { st with box:=st.box.set i { B with cells:=[.arr N tR S] } }
    | none=>False)
   | _=>False)
  | none=>False)
 | _=>False
theorem cSortT:∀ ds st K,spSort OpsS.real 77 ds st K→FnS Tryz.prog 77 ds st K:=fun ds st K h=>by
 unfold spSort at h
 split at h <;> first | exact h.elim | skip
 split at h <;> first | exact h.elim | skip
 split at h <;> first | exact h.elim | skip
 split at h <;> first | exact h.elim | skip
 rename_i i sz n g _ B hB _ N t l0 hc _ l hl
 obtain ⟨rfl,rfl,hf,hm,h⟩:=h
 obtain ⟨rfl,e⟩:=castL_eq hl
 obtain rfl:=eq_of_heq e
 obtain ⟨rfl,hl,h0,h1,hv,hk⟩:=h
 have hconc:∀ (B:BoxS) (X:List RT),X.length=N→B.cells=[.arr N tR X]→B.conc.cells=(tR.rows X).map .p:=fun B X hX hc=>by
  show concCs B.cells=_
  rw[hc]
  simp only[concCs_cons,concCs_nil,cellS,arrCells,List.append_nil]
  rw[Ty.norm_eq tR hX]
 have hdc:concL [DC.ms i 0 3 none N,DC.fn (.func 78) [] []]=[.ms i 0 N,.fn (.func 78) [] []]:=by simp[concL,DC.conc]
 show FnC _ _ (concL _) _ _
 rw[hdc]
 refine sortR_calls (B:=B.conc) (by show (st.box.map BoxS.conc)[i]? = _;rw[List.getElem?_map,←nthD_eq,hB];rfl) hf hm _ hl h0 h1 hv (hconc B _ hl hc) ?_
 refine KP.of (by simp[DC.conc]) ?_ (hk _ rfl)
 rw[StS.conc_set]
 congr 2
 have:=hconc { B with cells:=[.arr N tR (srtD (cpRs _))] } (srtD (cpRs _)) (by rw[srtD_len];unfold cpRs;rw[List.length_map];exact hl) rfl
 show _=BoxS.conc _
 simp only[BoxS.conc]at this ⊢
 rw[this]
def proL (l:List RS) (b:Int):List RT:=srtD (cpRs (colL l b))
structure PRF (l:List RS) (b:Int):Prop where
 c:CLM l b
 n0:l≠[]
 v:∀ x∈colL l b,VT x
theorem colL_len (l:List RS) (b:Int):(colL l b).length=l.length:=by unfold colL;rw[List.length_map]
theorem proL_len (l:List RS) (b:Int):(proL l b).length=l.length:=by unfold proL;rw[srtD_len];unfold cpRs;rw[List.length_map,colL_len]
theorem cProf (nl:Option Bool) (l:List RS) (b:Int) (h:PRF l b):PurS Tryz.prog 44 [injT (.sl tRs) (nl,l),injT tI b] (.tl none tR (proL l b)):=by
 refine PurS.of (S:=[]) (T:=[(70,_),(77,_)]) (U:=[]) (tbl:=[]) (n:=12) hm31 cfg .nil (.cons cColT (.cons cSortT .nil)) .nil .nil 0 Tryz.call44 Tryz.func44 (ac44_ok (some (0,0))) (by rw[Tryz.ntmps44];exact Nat.le_refl _) rfl ⟨_,rfl⟩ ?_
 intro cmp ar cv tn ic ai mx an ad ml sb mn ln em gt up ap sc vw cp rp p1 p2 s1 s2 X Y hX hY r0 r1 r2 r3 r4 r5 r6 r7 r8 r9 r10 r11 r12 r13 r14 r15 r16 r17 r18 r19 r20 r21 r22 r23 r24
 generalize hg0:proL=g0
 cbv
 refine ⟨h.c,h.n0,fun n C hn hC=>?_⟩
 cbv
 try simp only[nc_eq]at *
 have h1:=h.c.n
 have hnl:C.length=n:=by rw[hC,hn,colL_len]
 refine ⟨⟨⟨nlLe_self.2 trivial,trivial⟩,trivial⟩,SRTK.mk rfl hnl (by rw[hn];exact List.length_pos_iff.2 h.n0) (by omega) (by rw[hC];exact h.v) fun S hS=>?_⟩
 have hSp:S=proL l b:=by rw[hS,hC];rfl
 have hSl:S.length=n:=by rw[hSp,proL_len,hn]
 have hvR:vw tR n S 0 n=S:=by rw[r18];exact vw_all (t:=tR) hSl
 have had:ad 0 n=n:=by rw[r8];exact Nat.zero_add n
 have hg:S=g0 l b:=by rw[hSp,←hg0]
 cbv
 try simp only[nc_eq]at *
 rw[hvR,had]
 exact ⟨⟨Nat.le_refl _⟩,nlLe_none.2 trivial,hg⟩
end Go.Ab
