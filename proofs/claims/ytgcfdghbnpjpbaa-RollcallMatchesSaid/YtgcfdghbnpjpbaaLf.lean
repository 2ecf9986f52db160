/- The closure of Plan,in the caller's state. -/
import Derived.Test.YtgcfdghbnpjpbaaLe
set_option linter.unusedSimpArgs false
set_option linter.unusedVariables false
set_option maxRecDepth 20000
set_option maxHeartbeats 4000000
namespace Go.Ab
open Go.Proofs Go.RowKit
theorem LeD.flat1 {f h : Nat → Option Nat} {d : D} (hf : flatD d = true) : LeD f h d d := by
 cases d with
 | p x =>
   intro E E' u _ hr
   exact .p _ _ (hr.p_inv.flat hf)
 | _ => cases hf
theorem FnC.frame1 {P : Program} {f : FuncId} {ds dsL : List D} {st : St} {a : Nat} {A A' : Box} {x : PD} (hA : st.box[a]? = some A) (hAf : A.fz = A.m) (fA : ∀ d ∈ A.cells,flatD d = true) (fA' : ∀ d ∈ A'.cells,flatD d = true)
   (hA' : A'.fz = A.fz ∧ A'.m = A.m ∧ A'.e = A.e ∧ A'.ap = A.ap) (hx : flatP x = true) (hlen : ds.length = dsL.length) (hds : ∀ i,i < dsL.length → LeD (fun i => if i = 0 then some a else none) (fun _ => none) (ds.getD i default) (dsL.getD i default))
   (h : FnC P f dsL ⟨[A],[]⟩ fun d s => d = .p x ∧ s = ⟨[A'],[]⟩) {K : D → St → Prop} (hK : K (.p x) { st with box := st.box.set a A' }) : FnC P f ds st K := by
 have hal : a < st.box.length := (List.getElem?_eq_some_iff.1 hA).1
 have hcase : ∀ {i j : Nat},(if i = 0 then some a else none) = some j → i = 0 ∧ j = a := fun {i j} h => by
   split at h
   · exact ⟨by assumption,(Option.some.inj h).symm⟩
   · cases h
 have hcase2 : ∀ {j i : Nat},(if j = a then some 0 else none) = some i → i = 0 ∧ j = a := fun {j i} h => by
   split at h
   · exact ⟨(Option.some.inj h).symm,by assumption⟩
   · cases h
 have hget : ∀ {B : Box} (hB : ∀ d ∈ B.cells,flatD d = true) {k : Nat},k < B.cells.length → flatD (B.cells.getD k default) = true := fun hB k hk => by
   rw [List.getD_eq_getElem?_getD,List.getElem?_eq_getElem hk]
   exact hB _ (List.getElem_mem hk)
 refine FnC.frame (f1 := fun i => if i = 0 then some a else none) (h1 := fun _ => none) (dsL := dsL) (stL := ⟨[A],[]⟩) hlen ⟨Nat.zero_le _,Nat.zero_le _,fun j i hj => ?_,fun j j' i h1 h2 => ?_,fun j hj => absurd hj (Nat.not_lt_zero _),fun _ _ h => (by cases h),fun _ _ _ h => (by cases h),fun j hj => absurd hj (Nat.not_lt_zero _),fun t E E' u _ hr => .bad u⟩ hds h ?_
 · obtain ⟨rfl,rfl⟩ := hcase hj
   exact ⟨A,A,hA,rfl,hAf,hAf,⟨rfl,fun _ => rfl⟩,rfl,rfl,Nat.le_refl _,fun k hk => LeD.flat1 (hget fA hk)⟩
 · obtain ⟨rfl,_⟩ := hcase h1
   obtain ⟨rfl,_⟩ := hcase h2
   rfl
 · rintro d' stL' ⟨rfl,rfl⟩
   refine ⟨fun j => if j = a then some 0 else none,fun _ => none,.p x,{ st with box := st.box.set a A' },⟨fun i j h => ?_,fun i j hj h => ?_,fun j j' i h h' => ?_,fun j i B hj hB => ?_,fun j hj hn => ?_,fun _ _ h => (by cases h),fun _ _ _ h => (by cases h),fun _ _ _ h => (by cases h),fun _ _ _ h => (by cases h),fun _ _ _ => rfl⟩,LeD.flat1 hx,hK⟩
   · obtain ⟨rfl,rfl⟩ := hcase h; simp
   · obtain ⟨rfl,rfl⟩ := hcase2 h; simp
   · obtain ⟨_,rfl⟩ := hcase2 h
     obtain ⟨_,rfl⟩ := hcase2 h'
     rfl
   · obtain ⟨rfl,rfl⟩ := hcase2 hj
     have hB : A' = B := by simpa using hB
     subst hB
     exact ⟨A',List.getElem?_set_self hal,⟨rfl,rfl⟩,fun _ => ⟨fun _ => rfl,rfl,rfl,Nat.le_refl _,fun k hk => LeD.flat1 (hget fA' hk)⟩⟩
   · have hne : a ≠ j := fun e => by subst e; simp at hn
     exact List.getElem?_set_ne hne
abbrev intP (x : Int) : PD := .v (.int .i64 x)
abbrev intB (x : Int) : D := .p (intP x)
def rowBox (l : List Int) : Box := { cells := l.map intB,e := 3,fz := false,ap := true }
def cellOf : Option Nat → List Int → D
 | none,_ => .p (.sl (some true) 0 [])
 | some b,l => .ms b 0 l.length
structure ROWS (bx : List Box) (T : Nat) (nb : List (Option Nat)) (ls : List (List Int)) : Prop where
 n : nb.length = ls.length
 tb : bx[T]? = some { cells := List.zipWith cellOf nb ls,e := 41,fz := false,ap := true }
 no : ∀ i : Nat,nb[i]? = some none → ls[i]? = some []
 so : ∀ (i b : Nat) (l : List Int),nb[i]? = some (some b) → ls[i]? = some l → bx[b]? = some (rowBox l)
 inj : ∀ i j b : Nat,nb[i]? = some (some b) → nb[j]? = some (some b) → i = j
def rowsP (ls : List (List Int)) : List ROW := ls.map fun l => (none,l)
def rowPD (l : List Int) : PD := .sl none l.length (l.map intP)
theorem rows_tI (l : List Int) : tI.rows l = l.map intP := by
 induction l with
 | nil => rfl
 | cons x l ih => simp only [Ty.rows,List.flatMap_cons,List.map_cons] at ih ⊢; rw [ih]; rfl
theorem rows_tRow (ls : List (List Int)) : tRow.rows (rowsP ls) = ls.map rowPD := by
 induction ls with
 | nil => rfl
 | cons x l ih =>
   simp only [rowsP,Ty.rows,List.map_cons,List.flatMap_cons] at ih ⊢
   rw [ih]
   show PD.sl none x.length (tI.rows x) :: _ = _
   rw [rows_tI]; rfl
def fdD (a : Nat) (per : Int) (x : PD) : Nat → D
 | 0 => .bad
 | d + 1 => .rel (.fn (.func 31) [] [.rel (intB per),.rel (.p x),.rel (.mref a),fdD a per x d])
theorem freeD_conc (ls : List (List Int)) (per : Int) : ∀ d,(freeD (rowsP ls) per d).conc = fdD 0 per (.sl none ls.length (ls.map rowPD)) d
 | 0 => by simp only [freeD,fdD,DC.conc]
 | d + 1 => by
   simp only [freeD,fdD,DC.conc,concL,freeD_conc ls per d]
   rw [show (rowsP ls).length = ls.length by simp [rowsP]]
   erw [rows_tRow]
theorem LeD.rel {f h : Nat → Option Nat} {d d' : D} (hd : LeD f h d d') : LeD f h (.rel d) (.rel d') := fun E E' u hn hr => by
 obtain ⟨b,o,v,rfl,hG,hv⟩ := hr.rel_inv
 exact .rel _ b o v (by rw [hn.G]; exact hG) (hd E E' v hn hv)
theorem LeD.fnc {f h : Nat → Option Nat} {g : FuncId} {ds ds' : List D} (hl : ds.length = ds'.length) (hd : ∀ i,i < ds'.length → LeD f h (ds.getD i default) (ds'.getD i default)) : LeD f h (.fn (.func g) [] ds) (.fn (.func g) [] ds') := fun E E' u hn hr => by
 obtain ⟨us,ws,rfl,h1,h2,h3,h4⟩ := hr.fn_inv
 exact .fn _ _ _ us ws h1 (h2.trans hl) (fun k hk => absurd hk (Nat.not_lt_zero _)) fun k hk => hd k hk _ _ _ hn (h4 k (by omega))
theorem LeD.mref0 {a : Nat} {h : Nat → Option Nat} : LeD (fun i => if i = 0 then some a else none) h (.mref a) (.mref 0) := fun E E' u hn hr => by
 obtain ⟨x,hx,rfl⟩ := hr.mref_inv
 exact .mref 0 x (hn.b 0 a x rfl hx).1
theorem LeD.pd {f h : Nat → Option Nat} {x : PD} : LeD f h (.p x) (.p x) := fun E E' u hn hr => .p _ _ (by rw [hn.G]; exact hr.p_inv)
theorem fdD_le {a : Nat} {per : Int} {x : PD} {h : Nat → Option Nat} : ∀ d,LeD (fun i => if i = 0 then some a else none) h (fdD a per x d) (fdD 0 per x d)
 | 0 => fun _ _ u _ _ => .bad u
 | d + 1 => by
   refine .rel (.fnc rfl fun i hi => ?_)
   match i,hi with
   | 0,_ => exact .rel .pd
   | 1,_ => exact .rel .pd
   | 2,_ => exact .rel .mref0
   | 3,_ => exact fdD_le d
theorem all4 {P : Nat → Prop} (h0 : P 0) (h1 : P 1) (h2 : P 2) (h3 : P 3) : ∀ i,i < 4 → P i := fun i hi => by
 match i,hi with
 | 0,_ => exact h0
 | 1,_ => exact h1
 | 2,_ => exact h2
 | 3,_ => exact h3
def mapBx (k : Int) (m : ME) : Box := { cells := intB k :: (tME.rows m).map .p,e := 1,fz := true,m := true }
theorem ME_flat (m : ME) : ∀ x ∈ tME.rows m,flatP x = true := by
 intro x hx
 rw [Ty.rows,List.mem_flatMap] at hx
 obtain ⟨e,_,he⟩ := hx
 simp only [Ty.cells,List.cons_append,List.nil_append,List.mem_cons,List.not_mem_nil,or_false] at he
 rcases he with rfl | rfl | rfl <;> rfl
theorem mapBx_flat (k : Int) (m : ME) : ∀ d ∈ (mapBx k m).cells,flatD d = true := by
 intro d hd
 rcases List.mem_cons.1 hd with rfl | hd
 · rfl
 · obtain ⟨x,hx,rfl⟩ := List.mem_map.1 hd
   exact ME_flat m x hx
theorem mapI_conc (k : Int) (m : ME) : (mapI k m.length m).conc = ⟨[mapBx k m],[]⟩ := by
 simp only [mapI,StS.conc,List.map_cons,List.map_nil,BoxS.conc,concCs_cons,concCs_nil,cellS,DC.conc,arrCells,List.append_nil,tME.norm_eq rfl,mapBx]
 rfl
structure VARS (bx : List Box) (pe ov fv rv T M n : Nat) (per : Int) : Prop where
 p : ∃ B,bx[pe]? = some B ∧ B.fz = false ∧ B.m = false ∧ B.cells = [intB per]
 o : ∃ B,bx[ov]? = some B ∧ B.fz = false ∧ B.m = false ∧ B.cells = [.ms T 0 n]
 f : ∃ B,bx[fv]? = some B ∧ B.fz = false ∧ B.m = false ∧ B.cells = [.mref M]
 r : ∃ B,bx[rv]? = some B ∧ B.fz = false ∧ B.m = false ∧ B.cells = [.fn (.func 31) [] [.ptr pe 0,.ptr ov 0,.ptr fv 0,.ptr rv 0]]
theorem freeC {st : St} {pe ov fv rv T M : Nat} {per : Int} {nb : List (Option Nat)} {ls : List (List Int)} (hV : VARS st.box pe ov fv rv T M ls.length per) (hR : ROWS st.box T nb ls) {k : Int} {m : ME} (hM : st.box[M]? = some (mapBx k m))
   (hls : ls.length ≤ 64) {c r k' : Int} {m' : ME} {d : Nat} (hF : FREER (rowsP ls) per d c m k r m' k') (hc : c < ls.length) (hk : 0 ≤ k) {K : D → St → Prop} (hK : K (intB r) { st with box := st.box.set M (mapBx k' m') }) :
   FnC Try.prog 31 [intB c,.ptr pe 0,.ptr ov 0,.ptr fv 0,.ptr rv 0] st K := by
 have hMl : M < st.box.length := (List.getElem?_eq_some_iff.1 hM).1
 let W : Nat → Prop := fun i => i = M ∨ st.box.length ≤ i
 let R : Nat → Prop := fun j => ¬ W j ∧ ∃ B,st.box[j]? = some B ∧ B.fz = false ∧ B.m = false
 have hVR : okV R st := fun j hj => hj.2
 have hin : ∀ {j : Nat} {B : Box},st.box[j]? = some B → B.fz = false → B.m = false → R j := fun {j B} hB hf hm => by
   refine ⟨?_,B,hB,hf,hm⟩
   rintro (rfl | h)
   · rw [hM] at hB; obtain rfl := Option.some.inj hB; cases hf
   · have := (List.getElem?_eq_some_iff.1 hB).1; omega
 obtain ⟨Bp,p1,p2,p3,p4⟩ := hV.p
 obtain ⟨Bo,o1,o2,o3,o4⟩ := hV.o
 obtain ⟨Bf,f1,f2,f3,f4⟩ := hV.f
 obtain ⟨Br,v1,v2,v3,v4⟩ := hV.r
 have hx : ∀ {cx : Ctx} {E : Em} {w : World},HR Try.prog cx E st w → ∀ u,RD E (.ms T 0 ls.length) u → RD (relE R W E w) (.p (.sl none ls.length (ls.map rowPD))) u := fun {cx E w} hw u hu => by
   refine .p _ _ (relE_ms hw hVR (hin hR.tb rfl rfl) hR.tb (by simp [hR.n]) (by simp) (fun i hi u hu => ?_) hu)
   have hi : i < ls.length := by simpa using hi
   have hin' : i < nb.length := by rw [hR.n]; exact hi
   have e1 : (ls.map rowPD).getD i default = rowPD ls[i] := by simp [hi]
   have e2 : (List.zipWith cellOf nb ls).getD i default = cellOf nb[i] ls[i] := by
     rw [List.getD_eq_getElem?_getD,List.getElem?_eq_getElem (by rw [List.length_zipWith]; omega),List.getElem_zipWith]; rfl
   rw [e1]
   rw [show (({ cells := List.zipWith cellOf nb ls,e := 41,fz := false,ap := true } : Box).cells.getD i default) = cellOf nb[i] ls[i] from e2] at hu
   have hgl : ls[i]? = some ls[i] := List.getElem?_eq_getElem hi
   cases hb : nb[i] with
   | none =>
     rw [hb] at hu
     have := hR.no i (by rw [List.getElem?_eq_getElem hin',hb])
     rw [hgl] at this
     rw [Option.some.inj this]
     have := hu.p_inv
     cases this with
     | nil => exact .nil none (by simp)
     | sl' _ _ _ _ _ _ _ _ h => exact absurd rfl h
   | some b =>
     rw [hb] at hu
     have hB := hR.so i b ls[i] (by rw [List.getElem?_eq_getElem hin',hb]) hgl
     refine relE_ms hw hVR (hin hB rfl rfl) hB (by simp [rowBox]) (by simp) (fun j hj u hu => ?_) hu
     have hj : j < ls[i].length := by simpa using hj
     have e3 : (rowBox ls[i]).cells.getD j default = intB ls[i][j] := by simp [rowBox,hj]
     have e4 : (ls[i].map intP).getD j default = intP ls[i][j] := by simp [hj]
     rw [e3] at hu
     rw [e4]
     exact hu.p_inv.flat rfl
 have hpe : ∀ {cx : Ctx} {E : Em} {w : World},HR Try.prog cx E st w → ∀ u,RD E (.ptr pe 0) u → RD (relE R W E w) (.rel (intB per)) u := fun hw u hu =>
   relE_ptr hw hVR (hin p1 p2 p3) p1 p4 (fun u hu => .p _ _ (hu.p_inv.flat rfl)) hu
 have hov : ∀ {cx : Ctx} {E : Em} {w : World},HR Try.prog cx E st w → ∀ u,RD E (.ptr ov 0) u → RD (relE R W E w) (.rel (.p (.sl none ls.length (ls.map rowPD)))) u := fun hw u hu =>
   relE_ptr hw hVR (hin o1 o2 o3) o1 o4 (fun u hu => hx hw u hu) hu
 have hfv : ∀ {cx : Ctx} {E : Em} {w : World},HR Try.prog cx E st w → ∀ u,RD E (.ptr fv 0) u → RD (relE R W E w) (.rel (.mref M)) u := fun hw u hu =>
   relE_ptr hw hVR (hin f1 f2 f3) f1 f4 (fun u hu => relE_up (W := W) (d := .mref M) (show W M from .inl rfl) hu) hu
 have hrv : ∀ {cx : Ctx} {E : Em} {w : World},HR Try.prog cx E st w → ∀ D u,RD E (.ptr rv 0) u → RD (relE R W E w) (fdD M per (.sl none ls.length (ls.map rowPD)) D) u := fun {cx E w} hw D => by
   induction D with
   | zero => exact fun u _ => .bad u
   | succ D ih =>
     intro u hu
     refine relE_ptr hw hVR (hin v1 v2 v3) v1 v4 (fun u hu => ?_) hu
     obtain ⟨us,ws,rfl,q1,q2,q3,q4⟩ := hu.fn_inv
     refine .fn _ _ _ us ws q1 q2 (fun k hk => absurd hk (Nat.not_lt_zero _)) ?_
     exact all4 (hpe hw _ (q4 0 (by simp))) (hov hw _ (q4 1 (by simp))) (hfv hw _ (q4 2 (by simp))) (ih _ (q4 3 (by simp)))
 have hc1 := cFree hF (by simp [rowsP]; exact hls) (by simp [rowsP]; exact hc) hk d (Nat.le_refl _)
 have hc2 : FnC Try.prog 31 [intB c,.rel (intB per),.rel (.p (.sl none ls.length (ls.map rowPD))),.rel (.mref 0),fdD 0 per (.sl none ls.length (ls.map rowPD)) d] ⟨[mapBx k m],[]⟩ fun d s => d = .p (intP r) ∧ s = ⟨[mapBx k' m'],[]⟩ := by
   unfold FnS at hc1
   simp only [concL,DC.conc,freeD_conc,mapI_conc] at hc1
   erw [rows_tRow] at hc1
   rw [show (rowsP ls).length = ls.length by simp [rowsP]] at hc1
   refine FnC.cmono _ _ _ _ _ ?_ hc1
   rintro x s ⟨dc,s',rfl,rfl,rfl,rfl⟩
   exact ⟨rfl,mapI_conc _ _⟩
 have hc3 : FnC Try.prog 31 [intB c,.rel (intB per),.rel (.p (.sl none ls.length (ls.map rowPD))),.rel (.mref M),fdD M per (.sl none ls.length (ls.map rowPD)) d] st fun d s => d = .p (intP r) ∧ s = { st with box := st.box.set M (mapBx k' m') } := by
   refine FnC.frame1 (ds := [intB c,.rel (intB per),.rel (.p (.sl none ls.length (ls.map rowPD))),.rel (.mref M),fdD M per (.sl none ls.length (ls.map rowPD)) d]) (dsL := [intB c,.rel (intB per),.rel (.p (.sl none ls.length (ls.map rowPD))),.rel (.mref 0),fdD 0 per (.sl none ls.length (ls.map rowPD)) d]) (K := fun d s => d = .p (intP r) ∧ s = { st with box := st.box.set M (mapBx k' m') }) hM rfl (mapBx_flat k m) (mapBx_flat k' m') ⟨rfl,rfl,rfl,rfl⟩ rfl rfl (fun i hi => ?_) hc2 ⟨rfl,rfl⟩
   match i,hi with
   | 0,_ => exact .pd
   | 1,_ => exact .rel .pd
   | 2,_ => exact .rel .pd
   | 3,_ => exact .rel .mref0
   | 4,_ => exact fdD_le d
 have hok : ∀ (st' : St) (k : Int) (m : ME),st'.box.length = st.box.length → st'.box[M]? = some (mapBx k m) → okWs W st' := fun st' k m hl hM' i B hB hi j hj => by
   have hil := (List.getElem?_eq_some_iff.1 hB).1
   rcases hi with rfl | hi
   · rw [hM'] at hB
     obtain rfl := Option.some.inj hB
     have : flatD ((mapBx k m).cells.getD j default) = true := by
       rw [List.getD_eq_getElem?_getD,List.getElem?_eq_getElem hj]
       exact mapBx_flat k m _ (List.getElem_mem hj)
     cases h : (mapBx k m).cells.getD j default with
     | p x => rw [h] at this; exact this
     | _ => rw [h] at this; cases this
   · omega
 refine FnC.rel (ds := [intB c,.ptr pe 0,.ptr ov 0,.ptr fv 0,.ptr rv 0]) (dsL := [intB c,.rel (intB per),.rel (.p (.sl none ls.length (ls.map rowPD))),.rel (.mref M),fdD M per (.sl none ls.length (ls.map rowPD)) d]) (KL := fun d s => d = .p (intP r) ∧ s = { st with box := st.box.set M (mapBx k' m') }) R W (fun j hj => hj.1) (hok st k m rfl hM) rfl (fun cx E w hw i hi u hu => ?_) hc3 fun d' st' hd' => ?_
 · match i,hi with
   | 0,_ => exact .p _ _ (hu.p_inv.flat rfl)
   | 1,_ => exact hpe hw u hu
   | 2,_ => exact hov hw u hu
   | 3,_ => exact hfv hw u hu
   | 4,_ => exact hrv hw d u hu
 · obtain ⟨rfl,rfl⟩ := hd'
   refine ⟨rfl,hok _ k' m' (by simp) (by rw [List.getElem?_set_self hMl]),fun j hj B hB => ?_,hK⟩
   show (st.box.set M _)[j]? = _
   rw [List.getElem?_set_ne (fun e => hj (.inl e.symm))]
   exact hB
end Go.Ab
