/- Natural numbers as lists of limbs of 32 bits,the lowest first. No conditions. -/
import Derived.Test.YtlmdgmppeacobaaGreatAbG
import Derived.Test.YtlmdgmppeacobaaGreatCod3
set_option linter.unusedSimpArgs false
set_option linter.unusedVariables false
namespace Go.Ab
def vl:List Int→Nat
 | []=>0
 | x :: l=>x.toNat+4294967296*vl l
def LB (l:List Int):Prop:=∀ x∈l,0≤x∧x<4294967296
def lm (n:Nat):List Int:=if h:n=0 then [] else ((n % 4294967296:Nat):Int) :: lm (n / 4294967296)
termination_by n
decreasing_by omega
structure CN (l:List Int):Prop where
 lb:LB l
 eq:lm (vl l)=l
theorem lm_zero:lm 0=[]:=by unfold lm;simp
theorem lm_pos {n:Nat} (h:n≠0):lm n=((n % 4294967296:Nat):Int) :: lm (n / 4294967296):=by rw[lm];simp[h]
theorem vl_nil:vl []=0:=rfl
theorem vl_cons (x:Int) (l:List Int):vl (x :: l)=x.toNat+4294967296*vl l:=rfl
theorem vl_lm (n:Nat):vl (lm n)=n:=by
 induction n using Nat.strongRecOn with
 | ind n ih=>
  by_cases h:n=0
  ·subst h;rw[lm_zero];rfl
  ·rw[lm_pos h,vl_cons,ih _ (by omega)];omega
theorem LB.nil:LB []:=fun x h=>by cases h
theorem LB.cons {x:Int} {l:List Int} (h0:0≤x) (h1:x<4294967296) (h:LB l):LB (x :: l):=fun y hy=>by
 rcases List.mem_cons.1 hy with rfl | hy
 ·exact ⟨h0,h1⟩
 ·exact h y hy
theorem LB.head {x:Int} {l:List Int} (h:LB (x :: l)):0≤x∧x<4294967296:=h x (by simp)
theorem LB.tail {x:Int} {l:List Int} (h:LB (x :: l)):LB l:=fun y hy=>h y (by simp[hy])
theorem LB.app {a b:List Int} (ha:LB a) (hb:LB b):LB (a ++ b):=fun x hx=>(List.mem_append.1 hx).elim (ha x) (hb x)
theorem LB.take {l:List Int} (h:LB l) (n:Nat):LB (l.take n):=fun x hx=>h x (List.mem_of_mem_take hx)
theorem LB.drop {l:List Int} (h:LB l) (n:Nat):LB (l.drop n):=fun x hx=>h x (List.mem_of_mem_drop hx)
theorem LB.set {l:List Int} (h:LB l) (i:Nat) {x:Int} (h0:0≤x) (h1:x<4294967296):LB (l.set i x):=fun y hy=>by
 rcases List.mem_or_eq_of_mem_set hy with hy | rfl
 ·exact h y hy
 ·exact ⟨h0,h1⟩
theorem LB.getD {l:List Int} (h:LB l) (i:Nat):0≤l.getD i 0∧l.getD i 0<4294967296:=by
 by_cases hi:i<l.length
 ·rw[List.getD_eq_getElem?_getD,List.getElem?_eq_getElem hi];exact h _ (List.getElem_mem hi)
 ·rw[List.getD_eq_getElem?_getD,List.getElem?_eq_none (by omega)];simp
theorem LB.rep (n:Nat):LB (List.replicate n 0):=fun x hx=>by rw[(List.mem_replicate.1 hx).2];omega
theorem LB_lm (n:Nat):LB (lm n):=by
 induction n using Nat.strongRecOn with
 | ind n ih=>
  by_cases h:n=0
  ·subst h;rw[lm_zero];exact .nil
  ·rw[lm_pos h];exact .cons (by omega) (by omega) (ih _ (by omega))
theorem CN_lm (n:Nat):CN (lm n):=⟨LB_lm n,by rw[vl_lm]⟩
theorem CN.nil:CN []:=⟨.nil,lm_zero⟩
theorem vl_lt {l:List Int} (h:LB l):vl l<4294967296 ^ l.length:=by
 induction l with
 | nil=>simp[vl]
 | cons x l ih=>
  have:=h.head;have:=ih h.tail
  rw[vl_cons,List.length_cons,Nat.pow_succ];omega
theorem lm_len (n k:Nat):(lm n).length≤k↔n<4294967296 ^ k:=by
 induction n using Nat.strongRecOn generalizing k with
 | ind n ih=>
  by_cases h:n=0
  ·subst h;rw[lm_zero];simp[Nat.pow_pos]
  ·rw[lm_pos h,List.length_cons]
   cases k with
   | zero=>simp;omega
   | succ k=>rw[Nat.succ_le_succ_iff,ih _ (by omega),Nat.pow_succ,Nat.div_lt_iff_lt_mul (by omega)]
theorem lm_eq_nil {n:Nat}:lm n=[]↔n=0:=⟨fun h=>by have:=vl_lm n;rw[h]at this;exact this.symm,fun h=>by rw[h,lm_zero]⟩
theorem lm_len0 {n:Nat}:(lm n).length=0↔n=0:=by rw[List.length_eq_zero_iff,lm_eq_nil]
theorem vl_append (a b:List Int):vl (a ++ b)=vl a+4294967296 ^ a.length*vl b:=by
 induction a with
 | nil=>simp[vl]
 | cons x a ih=>rw[List.cons_append,vl_cons,vl_cons,ih,List.length_cons,Nat.pow_succ,Nat.mul_add,Nat.mul_comm (4294967296 ^ a.length) 4294967296,Nat.mul_assoc];omega
theorem vl_split (l:List Int) (k:Nat) (h:k≤l.length):vl l=vl (l.take k)+4294967296 ^ k*vl (l.drop k):=by
 have:=vl_append (l.take k) (l.drop k)
 rw[List.take_append_drop,List.length_take,Nat.min_eq_left h]at this;exact this
theorem vl_rep (n:Nat):vl (List.replicate n 0)=0:=by
 induction n with
 | zero=>rfl
 | succ n ih=>rw[List.replicate_succ,vl_cons,ih];rfl
theorem vl_take_succ {l:List Int} {i:Nat} (h:i<l.length):vl (l.take (i+1))=vl (l.take i)+4294967296 ^ i*(l.getD i 0).toNat:=by
 rw[List.take_succ_eq_append_getElem h,vl_append,List.length_take,Nat.min_eq_left (by omega)]
 simp[vl,h]
theorem vl_drop_pred {l:List Int} {i:Nat} (h:i<l.length):vl (l.drop i)=(l.getD i 0).toNat+4294967296*vl (l.drop (i+1)):=by
 rw[List.drop_eq_getElem_cons h,vl_cons];simp[h]
theorem vl_set {l:List Int} {i:Nat} (h:i<l.length) (y:Int):vl (l.set i y)+4294967296 ^ i*(l.getD i 0).toNat=vl l+4294967296 ^ i*y.toNat:=by
 induction l generalizing i with
 | nil=>simp at h
 | cons x l ih=>
  cases i with
  | zero=>simp only[List.set_cons_zero,vl_cons,Nat.pow_zero,Nat.one_mul,List.getD_cons_zero];omega
  | succ i=>
   have:=ih (i:=i) (by simpa using h)
   simp only[List.set_cons_succ,vl_cons,List.getD_cons_succ]
   rw[Nat.pow_succ,Nat.mul_comm (4294967296 ^ i) 4294967296,Nat.mul_assoc,Nat.mul_assoc];omega
theorem CN.tail {x:Int} {l:List Int} (h:CN (x :: l)):CN l:=by
 have hx:=h.lb.head
 have e:=h.eq
 have h0:vl (x :: l)≠0:=fun h0=>by rw[h0,lm_zero]at e;cases e
 rw[lm_pos h0]at e
 obtain ⟨_,e2⟩:=List.cons.inj e
 refine ⟨h.lb.tail,?_⟩
 rw[show vl (x :: l) / 4294967296=vl l by rw[vl_cons];omega]at e2;exact e2
theorem CN.last {l:List Int} (h:CN l) (hl:l≠[]):l.getD (l.length - 1) 0≠0:=by
 induction l with
 | nil=>exact absurd rfl hl
 | cons x l ih=>
  cases l with
  | nil=>
   have e:=h.eq
   intro h0
   have:x=0:=h0
   subst this
   rw[show vl [0]=0 from rfl,lm_zero]at e;cases e
  | cons y l=>
   have:=ih h.tail (by simp)
   simpa using this
theorem CN.of_last {l:List Int} (h:LB l) (hl:l≠[]→l.getD (l.length - 1) 0≠0):CN l:=by
 induction l with
 | nil=>exact .nil
 | cons x l ih=>
  have hx:=h.head
  have ht:CN l:=by
   refine ih h.tail fun hne=>?_
   cases l with
   | nil=>exact absurd rfl hne
   | cons y l=>have:=hl (by simp);simpa using this
  have h0:vl (x :: l)≠0:=by
   rw[vl_cons]
   cases l with
   | nil=>
    have:x≠0:=hl (by simp)
    show x.toNat+4294967296*0≠0;omega
   | cons y l=>
    intro h0
    have h1:vl (y :: l)=0:=by omega
    have:=ht.eq
    rw[h1,lm_zero]at this;cases this
  refine ⟨h,?_⟩
  rw[lm_pos h0,show vl (x :: l) / 4294967296=vl l by rw[vl_cons];omega,ht.eq,show vl (x :: l) % 4294967296=x.toNat by rw[vl_cons];omega]
  congr 1;omega
theorem CN.ge {l:List Int} (h:CN l) (hl:l≠[]):4294967296 ^ (l.length - 1)≤vl l:=by
 have hlen:0<l.length:=List.length_pos_iff.2 hl
 have h1:=vl_split l (l.length - 1) (by omega)
 rw[vl_drop_pred (by omega),show l.length - 1+1=l.length by omega,List.drop_length]at h1
 have h2:=h.last hl
 have h3:=(h.lb.getD (l.length - 1)).1
 have h4:1≤(l.getD (l.length - 1) 0).toNat:=by omega
 have:=Nat.mul_le_mul_left (4294967296 ^ (l.length - 1)) h4
 rw[show vl []=0 from rfl,Nat.mul_zero,Nat.add_zero]at h1
 omega
theorem CN.len_lt {a b:List Int} (ha:CN a) (hb:CN b) (h:a.length<b.length):vl a<vl b:=by
 have h1:=vl_lt ha.lb
 have hne:b≠[]:=fun e=>by rw[e]at h;simp at h
 have h2:=hb.ge hne
 have h3:4294967296 ^ a.length≤4294967296 ^ (b.length - 1):=Nat.pow_le_pow_right (by omega) (by omega)
 omega
theorem trim_step {l:List Int} {n:Nat} (h:n<l.length) (h0:l.getD n 0=0):vl (l.take (n+1))=vl (l.take n):=by
 rw[vl_take_succ h,h0];rfl
theorem trim_end {l:List Int} (h:LB l) {n:Nat} (hn:n≤l.length) (hv:vl (l.take n)=vl l) (he:n=0∨l.getD (n - 1) 0≠0):l.take n=lm (vl l):=by
 rw[←hv]
 refine (CN.of_last (h.take n) fun hne=>?_).eq.symm
 rcases he with rfl | he
 ·exact absurd rfl hne
 ·rw[List.length_take,Nat.min_eq_left hn]
  have hn0:n≠0:=fun e=>by rw[e]at hne;exact hne rfl
  rw[List.getD_eq_getElem?_getD,List.getElem?_take,if_pos (by omega),←List.getD_eq_getElem?_getD];exact he
theorem ord_lt {a b:List Int} (ha:LB a) (hb:LB b) {i:Nat} (hi:i<a.length) (hl:a.length=b.length) (hd:a.drop (i+1)=b.drop (i+1)) (h:a.getD i 0<b.getD i 0):vl a<vl b:=by
 rw[vl_split a i (by omega),vl_split b i (by omega),vl_drop_pred hi,vl_drop_pred (l:=b) (by omega),hd]
 have h1:=vl_lt (ha.take i)
 rw[List.length_take,Nat.min_eq_left (by omega)]at h1
 have h2:(a.getD i 0).toNat+4294967296*vl (b.drop (i+1))+1≤(b.getD i 0).toNat+4294967296*vl (b.drop (i+1)):=by
  have:=(ha.getD i).1;omega
 have h3:=Nat.mul_le_mul_left (4294967296 ^ i) h2
 rw[Nat.mul_add,Nat.mul_one]at h3
 omega
theorem drop_step {a b:List Int} {i:Nat} (hi:i<a.length) (hl:a.length=b.length) (hd:a.drop (i+1)=b.drop (i+1)) (h:a.getD i 0=b.getD i 0):a.drop i=b.drop i:=by
 rw[List.drop_eq_getElem_cons hi,List.drop_eq_getElem_cons (l:=b) (by omega),hd]
 congr 1
 rw[List.getD_eq_getElem?_getD,List.getD_eq_getElem?_getD,List.getElem?_eq_getElem hi,List.getElem?_eq_getElem (by omega)]at h
 exact h
def cmpN (x y:Nat):Int:=if x<y then -1 else if x=y then 0 else 1
theorem cmpN_lt {x y:Nat} (h:x<y):cmpN x y = -1:=if_pos h
theorem cmpN_gt {x y:Nat} (h:y<x):cmpN x y=1:=by unfold cmpN;rw[if_neg (by omega),if_neg (by omega)]
theorem cmpN_eq (x:Nat):cmpN x x=0:=by unfold cmpN;rw[if_neg (by omega),if_pos rfl]
theorem cmpN_neg {x y:Nat}:cmpN x y<0↔x<y:=by unfold cmpN;split <;> (try split) <;> omega
theorem cmpN_nonneg {x y:Nat}:0≤cmpN x y↔y≤x:=by unfold cmpN;split <;> (try split) <;> omega
theorem vl_inj:∀ {a b:List Int},LB a→LB b→a.length=b.length→vl a=vl b→a=b
 | [],[],_,_,_,_=>rfl
 | [],_ :: _,_,_,h,_=>by simp at h
 | _ :: _,[],_,_,h,_=>by simp at h
 | x :: a,y :: b,ha,hb,hl,hv=>by
  rw[vl_cons,vl_cons]at hv
  have h1:=ha.head
  have h2:=hb.head
  have e:x=y:=by omega
  subst e
  rw[vl_inj ha.tail hb.tail (by simpa using hl) (by omega)]
def pad:Nat→Nat→List Int
 | 0,_=>[]
 | n+1,v=>((v % 4294967296:Nat):Int) :: pad n (v / 4294967296)
theorem pad_len:∀ n v:Nat,(pad n v).length=n
 | 0,_=>rfl
 | n+1,v=>by rw[pad,List.length_cons,pad_len n]
theorem pad_lb:∀ n v:Nat,LB (pad n v)
 | 0,_=>.nil
 | n+1,v=>.cons (by omega) (by omega) (pad_lb n _)
theorem pad_vl:∀ {n v:Nat},v<4294967296 ^ n→vl (pad n v)=v
 | 0,v,h=>by simp at h;rw[h];rfl
 | n+1,v,h=>by
  rw[Nat.pow_succ]at h
  rw[pad,vl_cons,pad_vl (by rw[Nat.div_lt_iff_lt_mul (by omega)];exact h)];omega
theorem pad_of {l:List Int} (h:LB l):pad l.length (vl l)=l:=vl_inj (pad_lb _ _) h (pad_len _ _) (pad_vl (vl_lt h))
theorem step_add {a:List Int} {j:Nat} (hj:j<a.length) {x c y d:Nat} (h:(a.getD j 0).toNat+x+c=y+4294967296*d) :
  vl (a.set j (y:Int))+4294967296 ^ (j+1)*d=vl a+4294967296 ^ j*(x+c):=by
 have h1:=vl_set hj (y:Int)
 have h2:=congrArg (fun n=>4294967296 ^ j*n) h
 simp only[Nat.mul_add,Int.toNat_natCast]at h1 h2 ⊢
 rw[Nat.pow_succ,Nat.mul_assoc]
 omega
theorem step_sub {a:List Int} {j:Nat} (hj:j<a.length) {x c y d:Nat} (h:(a.getD j 0).toNat+4294967296*d=y+x+c) :
  vl (a.set j (y:Int))+4294967296 ^ j*(x+c)=vl a+4294967296 ^ (j+1)*d:=by
 have h1:=vl_set hj (y:Int)
 have h2:=congrArg (fun n=>4294967296 ^ j*n) h
 simp only[Nat.mul_add,Int.toNat_natCast]at h1 h2 ⊢
 rw[Nat.pow_succ,Nat.mul_assoc]
 omega
theorem pow_lt_iff {i n:Nat}:4294967296 ^ i<4294967296 ^ n↔i<n:=Nat.pow_lt_pow_iff_right (by omega)
theorem pow_pos (n:Nat):0<4294967296 ^ n:=Nat.pow_pos (by omega)
theorem lt_powW {v n k:Nat} (h:v<4294967296 ^ n) (hk:n≤k):v<4294967296 ^ k:=Nat.lt_of_lt_of_le h (Nat.pow_le_pow_right (by decide) hk)
theorem mul_powW {x y n m k:Nat} (hx:x<4294967296 ^ n) (hy:y<4294967296 ^ m) (hk:n+m≤k):x*y<4294967296 ^ k:=by
 have:=Nat.mul_lt_mul'' hx hy
 rw[←Nat.pow_add]at this
 exact lt_powW this hk
theorem dbl_powW {v w n k:Nat} (h:w<4294967296 ^ n) (hv:v≤2*w+1) (hk:k=n+1):v<4294967296 ^ k:=by
 subst hk
 rw[Nat.pow_succ];omega
theorem powW_up (v a:Nat) (h:v<4294967296 ^ a) (b:Nat) (hk:a≤b):v<4294967296 ^ b:=lt_powW h hk
theorem powW_le (a b:Nat) (hk:a≤b):4294967296 ^ a≤4294967296 ^ b:=Nat.pow_le_pow_right (by decide) hk
theorem dbl_upW (v w n:Nat) (h:w<4294967296 ^ n) (hv:v≤2*w+1) (k:Nat) (hk:k=n+1):v<4294967296 ^ k:=dbl_powW h hv hk
theorem powW_mul (a b c:Nat) (h:a+b=c):4294967296 ^ c=4294967296 ^ a*4294967296 ^ b:=by subst h;exact Nat.pow_add _ _ _
theorem powW_two (a c:Nat) (h:a+1≤c):4294967296 ^ a*2≤4294967296 ^ c:=by
 have h7:=powW_le (a+1) c h
 rw[Nat.pow_succ]at h7
 exact Nat.le_trans (Nat.mul_le_mul_left _ (by decide)) h7
theorem add_powW (x y a:Nat) (hx:x<4294967296 ^ a) (hy:y<4294967296 ^ a) (c:Nat) (h:a+1≤c):x+y<4294967296 ^ c:=
 Nat.lt_of_lt_of_le (Nat.add_lt_add hx hy) (by have:=powW_two a c h;omega)
end Go.Ab
set_option linter.unusedSimpArgs false
set_option linter.unusedVariables false
set_option maxRecDepth 20000
set_option maxHeartbeats 4000000
namespace Go.Ab
open Go.Proofs
theorem hm31:Tryz.prog.follows .mixedOrders=true:=by kernel_rfl
abbrev tB:Ty:=.int .u8
abbrev tV:Ty:=.int .u64
abbrev tW:Ty:=.int .u32
abbrev tN:Ty:=.sl tW
abbrev tR:Ty:=.pair .bool (.pair tN tN)
abbrev uw (n:Int):PD:=.v (.int .u32 n)
theorem drop_eq {t:Ty} {a b:List t.den} {i:Int} (h:0≤i) (h1:i<a.length) (h2:a.length=b.length):(a.drop i.toNat=b.drop i.toNat↔gtR t a i=gtR t b i∧a.drop (i+1).toNat=b.drop (i+1).toNat):=by
 rw[gtR_drop h h1,gtR_drop h (by omega)];simp
theorem gtR_mem {t:Ty} {l:List t.den} {i:Int} (h0:0≤i) (h1:i<l.length):gtR t l i∈l:=by
 have h:i.toNat<l.length:=by omega
 simp[gtR,h]
theorem vw_all {t:Ty} {n:Nat} {l:List t.den} (h:l.length=n):vwR t n l 0 n=l:=by unfold vwR;rw[Ty.norm_eq t h,List.drop_zero,←h,List.take_length]
theorem BR.lss {cmp:BinOp→Int→Int→Bool} (h:cmp=cmpR) {x y:Int} {A B:Prop} (t:x<y→A) (f:¬ x<y→B):BR (cmp .lss x y) A B:=by
 subst h;refine ⟨fun h=>t (by simpa [cmpR] using h),fun h=>f (by simpa [cmpR] using h)⟩
theorem BR.leq {cmp:BinOp→Int→Int→Bool} (h:cmp=cmpR) {x y:Int} {A B:Prop} (t:x≤y→A) (f:¬ x≤y→B):BR (cmp .leq x y) A B:=by
 subst h;refine ⟨fun h=>t (by simpa [cmpR] using h),fun h=>f (by simpa [cmpR] using h)⟩
theorem BR.eql {cmp:BinOp→Int→Int→Bool} (h:cmp=cmpR) {x y:Int} {A B:Prop} (t:x=y→A) (f:¬ x=y→B):BR (cmp .eql x y) A B:=by
 subst h;refine ⟨fun h=>t (by simpa [cmpR] using h),fun h=>f (by simpa [cmpR] using h)⟩
theorem BR.neq {cmp:BinOp→Int→Int→Bool} (h:cmp=cmpR) {x y:Int} {A B:Prop} (t:x≠y→A) (f:¬ x≠y→B):BR (cmp .neq x y) A B:=by
 subst h;refine ⟨fun h=>t (by simpa [cmpR] using h),fun h=>f (by simpa [cmpR] using h)⟩
theorem BR.gtr {cmp:BinOp→Int→Int→Bool} (h:cmp=cmpR) {x y:Int} {A B:Prop} (t:x>y→A) (f:¬ x>y→B):BR (cmp .gtr x y) A B:=by
 subst h;refine ⟨fun h=>t (by simpa [cmpR] using h),fun h=>f (by simpa [cmpR] using h)⟩
theorem BR.geq {cmp:BinOp→Int→Int→Bool} (h:cmp=cmpR) {x y:Int} {A B:Prop} (t:x≥y→A) (f:¬ x≥y→B):BR (cmp .geq x y) A B:=by
 subst h;refine ⟨fun h=>t (by simpa [cmpR] using h),fun h=>f (by simpa [cmpR] using h)⟩
theorem BR.nn {cmp:BinOp→Int→Int→Bool} (h:cmp=cmpR) {x:Int} {A B:Prop} (f:B):BR (cmp .neq x x) A B:=BR.neq h (fun h=>absurd rfl h) fun _=>f
def frS (fl hl:List Nat) (dsL:List DC) (stL:StS) (d:DC) (st':StS) (ds:List DC) (st:StS) (K:DC→StS→Prop):Prop:=
 leSs (fl.map some) (hl.map some) ds dsL∧((Nat.ble 0 stL.box.length && Nat.ble 0 stL.grp.length && dupFree (fl.map some) && dupFree (hl.map some) && lowB true 0 (fl.map some) 0 && lowB false 0 (hl.map some) 0)=true ∧
  leBoxes (fl.map some) (hl.map some) st.box 0 0 (fl.map some) stL.box∧leGrps st.grp (hl.map some) stL.grp∧leEnv (fl.map some) (hl.map some) [] []) ∧
 (Nat.ble stL.box.length st'.box.length && Nat.ble stL.grp.length st'.grp.length)=true ∧
 K (renS (rnOf fl st'.box st.box.length) (rnOf hl st'.grp st.grp.length) d) ⟨mergeL fl (st'.box.map (renB (rnOf fl st'.box st.box.length) (rnOf hl st'.grp st.grp.length))) st.box,mergeL hl st'.grp st.grp⟩
theorem frS_ok {P:Program} {f:FuncId} {fl hl:List Nat} {dsL:List DC} {stL:StS} {d:DC} {st':StS} {ds:List DC} {st:StS} {K:DC→StS→Prop} (h:FnS P f dsL stL fun x s=>x=d∧s=st') (hk:frS fl hl dsL stL d st' ds st K):FnS P f ds st K:=
 FnS.frame fl hl hk.1 (SIM_iff.2 hk.2.1) hk.2.2.1 h hk.2.2.2
def frST (pl fl hl:List Nat) (dsL:List DC) (stL:StS) (d:DC) (st':StS) (ds:List DC) (st:StS) (K:DC→StS→Prop):Prop:=disjN fl pl=true∧frS fl hl dsL stL d st' ds st K
theorem frST_ok {P:Program} {f:FuncId} {pl fl hl:List Nat} {dsL:List DC} {stL:StS} {d:DC} {st':StS} {ds:List DC} {st:StS} {K:DC→StS→Prop} (h:FnS P f dsL stL fun x s=>x=d∧s=st') (hk:frST pl fl hl dsL stL d st' ds st K):CT P pl f (concL ds) st.conc (KP K):=
 FnS.frameT fl hl hk.2.1 (SIM_iff.2 hk.2.2.1) hk.2.2.2.1 hk.1 h hk.2.2.2.2
theorem LOOP.ind0 {body:(Ax→EnvS→StS→Prop)→EnvS→StS→Prop} {keep:List Nat} {Q:Ax→EnvS→StS→Prop} {ρ0:EnvS} {st0:StS} {σ:Type}
  (env:σ→EnvS) (st:σ→StS) (μ:σ→Nat) (I:σ→Prop) (s0:σ) (h0:I s0) (hs:SIMX st0.box.length st0.grp.length ρ0 st0 (env s0) (st s0))
  (h:∀ s,I s→∀ X:EnvS→StS→Prop,(∀ (s':σ) (ρ':EnvS) (st':StS),I s'→μ s'<μ s→SIMX st'.box.length st'.grp.length ρ' st' (env s') (st s')→X ρ' st') →
   body (Ax.thnS (fun ρ' st'=>NEXT X (ρ'.keep keep) st') Q) (env s) (st s)):LOOP body none keep Q ρ0 st0:=by
 refine ⟨μ s0+1,?_⟩
 have key:∀ k s,I s→μ s<k→∀ ρ' st',SIMX st'.box.length st'.grp.length ρ' st' (env s) (st s)→LoopS body none keep Q k ρ' st':=by
  intro k
  induction k with
  | zero=>intro s _ hk;omega
  | succ k ih=>
   intro s hs hk ρ' st' hsim
   exact ⟨env s,st s,by have:=hsim.sim;simpa [SimQ,StS.conc] using this,h s hs _ fun s' ρ' st' hi hlt hsim=>ih s' hi (by omega) ρ' st' hsim⟩
 exact key _ s0 h0 (Nat.lt_succ_self _) ρ0 st0 hs
theorem wrap_u64 {x:Int} (h0:0≤x) (h1:x<18446744073709551616):IntKind.wrap .u64 x=x:=by
 simp[IntKind.wrap,IntKind.signed,IntKind.bits]
 exact Int.emod_eq_of_lt h0 h1
theorem wrap_u32 (x:Int):IntKind.wrap .u32 x=x % 4294967296:=rfl
def cmpI (x y:Int):Int:=if x<y then -1 else if x>y then 1 else 0
theorem cCmpI (x y:Int):PurS Tryz.prog 133 [injT tI x,injT tI y] (.p (iv (cmpI x y))):=by
 refine PurS.of (S:=[]) (T:=[]) (U:=[]) (tbl:=[(145,ac145 none,[.tmp 2],6)]) (n:=20) hm31 cfg .nil .nil .nil (.cons Tryz.call145 Tryz.func145 (ac145_ok none) (by rw[Tryz.ntmps145];exact Nat.le_refl _) .nil) 6 Tryz.call133 Tryz.func133 (ac133_ok (some (0,0))) (by rw[Tryz.ntmps133];exact Nat.le_refl _) rfl ⟨_,rfl⟩ ?_
 intro cmp ar cv tn ic ai mx an ad ml sb mn ln em gt up ap sc vw cp rp p1 p2 s1 s2 X Y hX hY r0 r1 r2 r3 r4 r5 r6 r7 r8 r9 r10 r11 r12 r13 r14 r15 r16 r17 r18 r19 r20 r21 r22 r23 r24
 generalize hg0:cmpI=g0
 cbv
 repeat' (first | exact True.intro | refine And.intro ?_ ?_ | (refine BR.nn r0 ?_) | (refine BR.lss r0 ?_ ?_ <;> intro _) | (refine BR.neq r0 ?_ ?_ <;> intro _) | (refine BR.eql r0 ?_ ?_ <;> intro _) | (refine BR.leq r0 ?_ ?_ <;> intro _) | (refine BR.gtr r0 ?_ ?_ <;> intro _) | (refine BR.geq r0 ?_ ?_ <;> intro _) | (refine BR.mk ?_ ?_ <;> intro _) | (refine CASE.mk ?_;intro _))
 all_goals (rw[←hg0];unfold cmpI;split <;> (try split) <;> omega)
theorem cCmpW (x y:Int):PurS Tryz.prog 134 [injT tW x,injT tW y] (.p (iv (cmpI x y))):=by
 refine PurS.of (S:=[]) (T:=[]) (U:=[]) (tbl:=[(146,ac146 none,[.tmp 2],6)]) (n:=20) hm31 cfg .nil .nil .nil (.cons Tryz.call146 Tryz.func146 (ac146_ok none) (by rw[Tryz.ntmps146];exact Nat.le_refl _) .nil) 6 Tryz.call134 Tryz.func134 (ac134_ok (some (0,0))) (by rw[Tryz.ntmps134];exact Nat.le_refl _) rfl ⟨_,rfl⟩ ?_
 intro cmp ar cv tn ic ai mx an ad ml sb mn ln em gt up ap sc vw cp rp p1 p2 s1 s2 X Y hX hY r0 r1 r2 r3 r4 r5 r6 r7 r8 r9 r10 r11 r12 r13 r14 r15 r16 r17 r18 r19 r20 r21 r22 r23 r24
 generalize hg0:cmpI=g0
 cbv
 repeat' (first | exact True.intro | refine And.intro ?_ ?_ | (refine BR.nn r0 ?_) | (refine BR.lss r0 ?_ ?_ <;> intro _) | (refine BR.neq r0 ?_ ?_ <;> intro _) | (refine BR.eql r0 ?_ ?_ <;> intro _) | (refine BR.leq r0 ?_ ?_ <;> intro _) | (refine BR.gtr r0 ?_ ?_ <;> intro _) | (refine BR.geq r0 ?_ ?_ <;> intro _) | (refine BR.mk ?_ ?_ <;> intro _) | (refine CASE.mk ?_;intro _))
 all_goals (rw[←hg0];unfold cmpI;split <;> (try split) <;> omega)
structure W3 (x y c:Int):Prop where
 x0:0≤x
 x1:x<4294967296
 y0:0≤y
 y1:y<4294967296
 c0:0≤c
 c1:c≤1
def add32 (x y c:Int):Int:=(x+y+c) % 4294967296
def cry32 (x y c:Int):Int:=(x+y+c) / 4294967296
theorem cAdd32 (x y c:Int) (h:W3 x y c):PurS Tryz.prog 148 [injT tW x,injT tW y,injT tW c] (.tup [.p (uw (add32 x y c)),.p (uw (cry32 x y c))]):=by
 refine PurS.of (S:=[]) (T:=[]) (U:=[]) (tbl:=[]) (n:=22) hm31 cfg .nil .nil .nil .nil 0 Tryz.call148 Tryz.func148 (ac148_ok (some (0,0))) (by rw[Tryz.ntmps148];exact Nat.le_refl _) rfl ⟨_,rfl⟩ ?_
 intro cmp ar cv tn ic ai mx an ad ml sb mn ln em gt up ap sc vw cp rp p1 p2 s1 s2 X Y hX hY r0 r1 r2 r3 r4 r5 r6 r7 r8 r9 r10 r11 r12 r13 r14 r15 r16 r17 r18 r19 r20 r21 r22 r23 r24
 generalize hg0:add32=g0
 generalize hg1:cry32=g1
 cbv
 obtain ⟨h1,h2,h3,h4,h5,h6⟩:=h
 rw[←hg0,←hg1,r1,r2]
 have e:arR .add .u64 (arR .add .u64 (IntKind.wrap .u64 x) (IntKind.wrap .u64 y)) (IntKind.wrap .u64 c)=x+y+c:=by
  simp only[arR]
  rw[wrap_u64 (x:=x) (by omega) (by omega),wrap_u64 (x:=y) (by omega) (by omega),wrap_u64 (x:=c) (by omega) (by omega),wrap_u64 (x:=x+y) (by omega) (by omega),wrap_u64 (by omega) (by omega)]
 rw[e]
 refine ⟨⟨by decide⟩,wrap_u32 _,?_,trivial⟩
 show IntKind.wrap .u32 (Int.fdiv (x+y+c) 4294967296)=cry32 x y c
 rw[Int.fdiv_eq_ediv_of_nonneg _ (by decide),wrap_u32]
 unfold cry32;omega
theorem wrapB (v:BitVec 32):IntKind.wrap .u32 (v.toNat:Int)=v.toNat:=by rw[wrap_u32];have:=v.isLt;omega
theorem ofB (v:BitVec 32):BitVec.ofInt 32 (v.toNat:Int)=v:=by
 apply BitVec.eq_of_toNat_eq;rw[BitVec.toNat_ofInt];have:=v.isLt;omega
theorem topB (v:BitVec 32):Int.fdiv (v.toNat:Int) 2147483648=if v.msb then 1 else 0:=by
 rw[Int.fdiv_eq_ediv_of_nonneg _ (by decide),BitVec.msb_eq_decide]
 have:=v.isLt
 by_cases h:2 ^ (32 - 1)≤v.toNat
 ·simp only[h,decide_true,if_true];omega
 ·simp only[h,decide_false,Bool.false_eq_true,if_false];omega
def sub32 (x y c:Int):Int:=(x - y - c) % 4294967296
def brw32 (x y c:Int):Int:=if x<y+c then 1 else 0
theorem cSub32 (x y c:Int) (h:W3 x y c):PurS Tryz.prog 135 [injT tW x,injT tW y,injT tW c] (.tup [.p (uw (sub32 x y c)),.p (uw (brw32 x y c))]):=by
 refine PurS.of (S:=[]) (T:=[]) (U:=[]) (tbl:=[]) (n:=25) hm31 cfg .nil .nil .nil .nil 0 Tryz.call135 Tryz.func135 (ac135_ok (some (0,0))) (by rw[Tryz.ntmps135];exact Nat.le_refl _) rfl ⟨_,rfl⟩ ?_
 intro cmp ar cv tn ic ai mx an ad ml sb mn ln em gt up ap sc vw cp rp p1 p2 s1 s2 X Y hX hY r0 r1 r2 r3 r4 r5 r6 r7 r8 r9 r10 r11 r12 r13 r14 r15 r16 r17 r18 r19 r20 r21 r22 r23 r24
 generalize hg0:sub32=g0
 generalize hg1:brw32=g1
 cbv
 obtain ⟨h1,h2,h3,h4,h5,h6⟩:=h
 rw[←hg0,←hg1,r1]
 have e:arR .sub .u32 (arR .sub .u32 x y) c=sub32 x y c:=by
  simp only[arR,wrap_u32];unfold sub32;omega
 rw[e]
 refine ⟨⟨by decide⟩,rfl,?_,trivial⟩
 obtain ⟨d,hd⟩:∃ d,d=sub32 x y c:=⟨_,rfl⟩
 rw[←hd]
 have hd':d=(x - y - c) % 4294967296:=hd
 obtain ⟨bx,hbx⟩:∃ b,b=BitVec.ofInt 32 x:=⟨_,rfl⟩
 obtain ⟨bY,hby⟩:∃ b,b=BitVec.ofInt 32 y:=⟨_,rfl⟩
 obtain ⟨bd,hbd⟩:∃ b,b=BitVec.ofInt 32 d:=⟨_,rfl⟩
 have nx:(bx.toNat:Int)=x:=by rw[hbx,BitVec.toNat_ofInt];omega
 have ny:(bY.toNat:Int)=y:=by rw[hby,BitVec.toNat_ofInt];omega
 have nd:(bd.toNat:Int)=d:=by rw[hbd,BitVec.toNat_ofInt];omega
 show Int.fdiv (IntKind.wrap .u32 (BitVec.ofInt 32 (IntKind.wrap .u32 (BitVec.ofInt 32 (IntKind.wrap .u32 (BitVec.ofInt 32 4294967295 ^^^ BitVec.ofInt 32 x).toNat) &&& BitVec.ofInt 32 y).toNat) |||
  BitVec.ofInt 32 (IntKind.wrap .u32 (BitVec.ofInt 32 (IntKind.wrap .u32 (BitVec.ofInt 32 4294967295 ^^^ BitVec.ofInt 32 (IntKind.wrap .u32 (BitVec.ofInt 32 x ^^^ BitVec.ofInt 32 y).toNat)).toNat) &&& BitVec.ofInt 32 d).toNat)).toNat) 2147483648=brw32 x y c
 rw[←hbx,←hby,←hbd]
 simp only[wrapB,ofB]
 rw[topB]
 simp only[BitVec.msb_or,BitVec.msb_and,BitVec.msb_xor]
 rw[show (BitVec.ofInt 32 4294967295).msb=true by decide]
 simp only[BitVec.msb_eq_decide]
 unfold brw32
 by_cases q1:2 ^ (32 - 1)≤bx.toNat <;> by_cases q2:2 ^ (32 - 1)≤bY.toNat <;> by_cases q3:2 ^ (32 - 1)≤bd.toNat <;> simp only[q1,q2,q3,decide_true,decide_false] <;> by_cases q4:x<y+c <;> simp only[q4,if_true,if_false] <;> (try rfl) <;> (exfalso;omega)
end Go.Ab
