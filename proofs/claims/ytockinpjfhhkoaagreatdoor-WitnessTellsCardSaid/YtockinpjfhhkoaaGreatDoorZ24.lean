/- What every statement of this seat wants: the start that meets the listed variables; what they give a walk; what is read again behind a call that only made memory of its own; texts and tokens that came in. -/
import Derived.ProofKit
import Derived.Deep.Slices
import Derived.Lib.LaidIn
import Derived.Lib.LaidTab
import Derived.LaidLaws
import Derived.Stop.LaidErr
import Derived.HandedShaped
import Derived.Shelf.Vars
import Derived.Lib.SmallJoins
import Derived.Test.YtockinpjfhhkoaaGreatDoorRows
import Derived.Test.YtockinpjfhhkoaaGreatDoorZ11
import Derived.Test.YtockinpjfhhkoaaGreatDoorZ00
set_option maxRecDepth 100000
set_option maxHeartbeats 16000000
open Go.Lib renaming cell_of_heap → Jc
namespace Go.Proofs.YtockinpjfhhkoaaGreatDoor
open Go.ChangeShapes Go.WideShapes Go.ChangeAt Go.RowKit Go.Joins
theorem Tryz.own : ownKnob Tryz.prog.godebug = none:=by kernel_rfl
theorem Tryz.laidOut : laidOutB Tryz.prog = true:=by kernel_rfl
theorem Tryz.cells3 : Tryz.prog.cellsOf 3 = 1:=by kernel_rfl
theorem Tryz.cells5 : Tryz.prog.cellsOf 5 = 1:=by kernel_rfl
theorem Tryz.cells9 : Tryz.prog.cellsOf 9 = 1:=by kernel_rfl
theorem Tryz.cells158 : Tryz.prog.cellsOf 158 = 1:=by kernel_rfl
theorem Tryz.cells321 : Tryz.prog.cellsOf 321 = 20:=by kernel_rfl
theorem Tryz.cells327 : Tryz.prog.cellsOf 327 = 1:=by kernel_rfl
def laidL : List (String × DataW Unit):=Rows.atomsNamesRow.laid
noncomputable def z27 (os : Os) : World :=
 let N:=(World.settled Tryz.prog os).heap.size
 let w0:=World.holding Tryz.prog os ⟨#[.cells #[.string ⟨#[118,97,108,117,101,32,111,117,116,32,111,102,32,114,97,110,103,101]⟩] 327,.cells #[.string ⟨#[105,110,118,97,108,105,100,32,115,121,110,116,97,120]⟩] 327],#[],[]⟩
 let put (h : Array Obj) (g : Nat) (cs : Array Value) : Array Obj:=h.modify g fun
  | .cells _ t frozen => .cells cs t frozen
  | o => o
 let tab8 (zs : List Int) : Array Value:=(zs.map (Value.int .u8)).toArray
 let h0:=put (put w0.heap 1 #[.iface 325 (.pointer (some ⟨N + 1,0,none⟩))]) 2 #[.iface 325 (.pointer (some ⟨N,0,none⟩))]
 let h1:=put h0 3 (Lib.pow10Tab.map (Value.int .u64)).toArray
 let h2:=put h1 4 (tab8 [0,1,28,2,29,14,24,3,30,22,20,15,25,17,4,8,31,27,13,23,21,19,16,7,26,12,18,6,11,5,10,9])
 let h3:=put h2 5 (tab8 [0,1,56,2,57,49,28,3,61,58,42,50,38,29,17,4,62,47,59,36,45,43,51,22,53,39,33,30,24,18,12,5,63,55,48,27,60,41,37,16,46,35,44,21,52,32,23,11,54,26,40,15,34,20,31,10,25,14,19,9,13,8,7,6])
 { w0 with heap:=h3 }
noncomputable abbrev N0 : Nat:=(World.settled Tryz.prog default).heap.size
theorem laid_in (os : Os) (args : Array Value) : Go.LaidIn Tryz.prog ((z27 os).forCall (fun _ _ => 0) ⟨#[],args,[]⟩).memory laidL [4,5,3,2,N0,1,N0 + 1] :=
 Go.LaidIn.of_run [4,5,3,2,N0,1,N0 + 1] 10 (by kernel_rfl) (by kernel_rfl) (by kernel_rfl) (by kernel_rfl)
theorem laid_met (os : Os) (args : Array Value) : laidMet Tryz.prog laidL ((z27 os).forCall (fun _ _ => 0) ⟨#[],args,[]⟩).memory:=(laid_in os args).met
theorem Tryz.star : "*" ++ "errors.errorString" = "*errors.errorString":=by decide
theorem Tryz.row110 (u : TypeId) (h : Tryz.prog.typeName? 3 u = some "*errors.errorString") : u = 325 :=
 typeName_ptr_named (nm:= "errors.errorString") (by rw [Tryz.star]; kernel_rfl) (by kernel_rfl) (by decide) u (by rw [Tryz.star]; exact h)
theorem z4b {P : Program} {W : World} {n : String} {g : Nat} {cs : Array Value} (hg : P.globalNamed n = some g) (h : W.var? P n = some cs) : ∃ t fz,W.heap[g]? = some (.cells cs t fz):=by
 unfold World.var? at h
 rw [hg,Option.bind_some] at h
 cases hh : W.heap[g]? with
 | none => rw [hh] at h; cases h
 | some o => cases o with
  | cells c t fz =>
   rw [hh] at h
   simp only [Option.some.injEq] at h
   subst h
   exact ⟨t,fz,rfl⟩
  | _ => rw [hh] at h; simp at h
theorem rdy_of {W : World} (hL : laidMet Tryz.prog laidL W) (hsh : W.ShapedOpen Tryz.prog) : Rdy W:=by
 have h1:=hL.tail.tail
 have ht : Lib.TabIs Tryz.prog W "internal/strconv.uint64pow10" .u64 Lib.pow10Tab :=
  Lib.tabIs_of_head (g:=3) (t:=321) (e:=158) (n:=20) (by kernel_rfl) (by kernel_rfl) Tryz.underlying321 Tryz.underlying158 Tryz.cells158 Tryz.cells321 h1
 obtain ⟨a0,s0,hv0,_⟩:=laid_sentinel (g:=2) (ti:=283) (tp:=325) (te:=327) (ts:=9) h1.tail (by kernel_rfl) (by kernel_rfl) Tryz.underlying283 Tryz.row110 Tryz.underlying325 Tryz.underlying327 rfl rfl Tryz.underlying9 Tryz.cells327 Tryz.cells9
 obtain ⟨a1,s1,hv1,_⟩:=laid_sentinel (g:=1) (ti:=283) (tp:=325) (te:=327) (ts:=9) h1.tail.tail (by kernel_rfl) (by kernel_rfl) Tryz.underlying283 Tryz.row110 Tryz.underlying325 Tryz.underlying327 rfl rfl Tryz.underlying9 Tryz.cells327 Tryz.cells9
 obtain ⟨t0,f0,h2⟩:=z4b (g:=2) (by kernel_rfl) hv0
 obtain ⟨t1,f1,h3⟩:=z4b (g:=1) (by kernel_rfl) hv1
 obtain ⟨t2,f2,h4⟩:=z4b (g:=3) (by kernel_rfl) ht
 exact ⟨cell_of_shapedOpen_int (g:=0) (t:=3) (zero:=#[.int .i64 0]) hsh (of_decide_eq_true (by kernel_rfl)) (by kernel_rfl) rfl (by kernel_rfl) (by kernel_rfl) Tryz.underlying3,
  ⟨325,.pointer (some a1),Jc h3 0⟩,⟨325,.pointer (some a0),Jc h2 0⟩,t2,f2,h4⟩
theorem z4r {H : Type} {enc : TypeId × Value → H} {P : Program} {W W' : World} (hl : laidOutB P = true) (hb : Below W.heap.size W W') :
 ∀ {ts : List TypeId} {vs : List Value} {ds : List (DataW H)} {ps : List MemPlace},(∀ t ∈ ts,P.readableRec t = true ∧ t < P.types.size) → DataW.TrodAll enc P W 0 (fun _ => true) true ts vs ds ps →
  (∀ x ∈ ps,x.block < W.heap.size) → DataW.TrodAll enc P W' 0 (fun b => decide (b < W.heap.size)) true ts vs ds ps
 | [],[],[],_,_,h,_ => h
 | t :: ts,v :: vs,d :: ds,ps,hr,⟨p,q,h1,h2,e⟩,hlt =>
  ⟨p,q,Below.trod hl (hr t (by simp)).1 (hr t (by simp)).2 h1 hb (fun x hx => hlt x (by rw [e]; exact List.mem_append_left _ hx)),
   z4r hl hb (fun t' ht' => hr t' (by simp [ht'])) h2 (fun x hx => hlt x (by rw [e]; exact List.mem_append_right _ hx)),e⟩
theorem law_post {H : Type} {enc : TypeId × Value → H} {P : Program} {f : Func} {s : ChangeSpec} {apart : Bool} {W W' : World} {args : Array Value} {ds : List (DataW H)} {before : List MemPlace} {tb : TypeId}
 (hl : laidOutB P = true) (hr : ∀ t ∈ f.params.toList,P.readableRec t = true ∧ t < P.types.size) (hsv : s.vars = []) (hrt : f.resultTypes = #[tb]) (htb : P.underlying tb = some .bool)
 (hW : DataW.Whole enc P f.params.toList s.vars apart W args.toList ds [] before)
 (hspec : s.fn H (ds ++ []) = { results:=[.lit (.bool true)],args:=ds }) (hb : Below W.heap.size W W') :
 s.post enc P f apart true false false W args (.bool true) W':=by
 have hlt:=hW.lt
 have hW':=hW
 obtain ⟨p,q,hA,hV,rfl,_,_⟩:=hW'
 rw [hsv] at hV
 obtain ⟨_,rfl⟩:=trodVars_none hV
 refine ⟨ds,[],_,[],p,[],hW,?_,?_,?_,hb.frame _,fun h => by cases h⟩
 ·rw [hspec,hrt]
  exact trodAll_mk1 (shut_bool htb true)
 ·rw [hspec]
  exact z4r hl hb hr hA (fun x hx => hlt x (by simpa using hx))
 ·rw [hspec,hsv]
  exact rfl
theorem z2r {H : Type} {enc : TypeId × Value → H} {P : Program} {w : World} {base : Nat} {spare : Nat → Bool} {held : Bool} {t e : TypeId} {C fuel : Nat} {cs : List Value} {x : DataW H × List MemPlace}
 (ht : P.underlying t = some (.slice e)) (hC : P.cellsOf e = C) (hC0 : 0 < C) (h : DataW.trod enc P w base spare held fuel t cs = some x) :
 ∃ a len cap,cs = [.slice a len cap] ∧ len ≤ 9223372036854775807 ∧ (len = 0 ∨ ∃ b off,a = some ⟨b,off,none⟩ ∧ b < w.heap.size ∧
  ∀ i,i < len → ∃ cs' y,cs'.length = C ∧ (∀ j,j < C → w.cell? ⟨b,off + i * C + j,none⟩ = cs'[j]?) ∧ DataW.trod enc P w base spare held (fuel - 1) e cs' = some y):=by
 rcases DataW.trod_slice ht h with ⟨rfl,_⟩ | ⟨a,len,cap,elems,rest,n,rfl,rfl,rfl,_,hl,hm,hel,hat,_⟩
 ·exact ⟨none,0,0,rfl,by omega,.inl rfl⟩
 ·have hml : cap ≤ 9223372036854775807:=hm
  refine ⟨some a,len,cap,rfl,by omega,?_⟩
  by_cases h0 : len = 0
  ·exact .inl h0
  ·have key : ∀ i,i < len → ∃ cs' y,cs'.length = C ∧ (∀ j,j < C → w.cell? (a.add (i * C + j)) = cs'[j]?) ∧ DataW.trod enc P w base spare held n e cs' = some y:=by
    intro i hi
    have h1:=hat i hi
    rw [hC,List.getElem?_eq_getElem (by omega)] at h1
    obtain ⟨cs',h2,h3⟩:=Option.bind_eq_some_iff.1 h1
    obtain ⟨_,h4,h5⟩:=World.cells?_some h2
    exact ⟨cs',_,h4,fun j hj => by rw [← Go.Deep.add_add]; exact h5 j hj,h3⟩
   obtain ⟨b,off,sp⟩:=a
   obtain ⟨cs0,_,hl0,hc0,_⟩:=key 0 (by omega)
   have hz:=hc0 0 hC0
   rw [List.getElem?_eq_getElem (by omega)] at hz
   have hsp : sp = none ∧ b < w.heap.size:=by
    simp only [Nat.zero_mul,Nat.add_zero,Addr.add,if_true] at hz
    unfold World.cell? at hz
    cases sp with
    | some s =>
     cases hh : w.heap[b]? <;> rw [hh] at hz <;> try (cases hz)
     rename_i o; cases o <;> simp at hz
    | none => exact ⟨rfl,by
     rcases Nat.lt_or_ge b w.heap.size with h | h
     ·exact h
     ·simp [Array.getElem?_eq_none h] at hz⟩
   obtain ⟨rfl,hb⟩:=hsp
   refine .inr ⟨b,off,rfl,hb,fun i hi => ?_⟩
   obtain ⟨cs',y,h1,h2,h3⟩:=key i hi
   refine ⟨cs',y,h1,fun j hj => ?_,h3⟩
   have:=h2 j hj
   rw [← this]
   congr 1
   unfold Addr.add
   split
   ·simp; try omega
   ·simp; omega
section
variable {H : Type} {enc : TypeId × Value → H}
theorem handed_laid {a : Assume} {C : Checked} {os : Os} {f : FuncId} {fn : Func} {s : ChangeSpec} {conds : List PathCond} {apart fresh handsOn again : Bool} {X : World → Array Value → Prop}
 (hX : ∀ (w w' : World) (args : Array Value),w.heap = w'.heap → X w args → X w' args)
 (own : ownKnob C.prog.godebug = none) (started : os.Started) (noInit : C.prog.inits.idxOf? f = none) (hfn : C.prog.funcs[f]? = some fn)
 (witness : ∃ (w : World) (tape : Tape) (i : Input),w.os = os ∧ (w.forCall tape i).Shaped C.prog ∧ i.vars = [] ∧ Input.okWide C.prog (w.forCall tape i) .any w.heap.size f i ∧
  ((s.pre enc C.prog fn conds apart (w.forCall tape i).memory i.args ∧ X (w.forCall tape i).memory i.args) ∧ sizedMet enc C.prog fn (OpenSpec.ofChange s) apart (w.forCall tape i).memory i.args) ∧ a.holds C.prog (lone (Frame.enter C.prog f i.args .normal) [] (w.forCall tape i)))
 (contract : ∀ (W : World) (base : Nat) (args : Array Value) (ds gs : List (DataW H)) (before : List MemPlace),
  (∀ (j : Nat) t v,fn.params[j]? = some t → args[j]? = some v → Value.okWide C.prog W .any base t v) →
  DataW.Whole enc C.prog fn.params.toList s.vars apart W args.toList ds gs before →
  (DataW.weightsEach C.prog (fn.params.toList ++ s.plain.varTypes C.prog) (ds ++ gs)).all (· ≤ reachBytes) = true → X W args →
  W.ShapedOpen C.prog →
  Calls C.prog f args W fun e W' => ∃ v,e = .returned v ∧ s.post enc C.prog fn apart fresh handsOn again W args v W') :
 ReturnsInHanded a C os f .any (fun w args => (s.pre enc C.prog fn conds apart w args ∧ X w args) ∧ sizedMet enc C.prog fn (OpenSpec.ofChange s) apart w args) (s.post enc C.prog fn apart fresh handsOn again):=by
 refine returnsInHanded_of_calls own started noInit witness ?_
 intro w tape i _ hsh _ hok hpre hholds
 obtain ⟨_,_,_,fn',hfn',_,_,_,_,hval⟩:=hok
 have e : fn' = fn:=Option.some.inj (hfn'.symm.trans hfn)
 subst e
 obtain ⟨⟨⟨ds,gs,before,hw,hc⟩,hx⟩,hz⟩:=hpre
 have hw':=DataW.Whole.of_heap (w':=w.forCall tape i) (by rfl) hw
 refine (contract (w.forCall tape i) w.heap.size i.args ds gs before hval hw' (hz.weights hw) (hX _ _ _ (by rfl) hx) hsh).mono fun e W' ⟨v,he,hp⟩ => ?_
 subst he
 exact ChangeSpec.post_blind hp
theorem witness_laid {f : FuncId} {fn : Func} {s : ChangeSpec} {conds : List PathCond} {apart : Bool} (os : Os) (args : Array Value) (fuel : Nat)
 (hv : ((z27 os).forCall (fun _ _ => 0) ⟨#[],args,[]⟩).variablesRefB Tryz.checked.prog = true)
 (hr : (((z27 os).forCall (fun _ _ => 0) ⟨#[],args,[]⟩).heap.toList.drop Tryz.checked.prog.globals.size).take ((begin Tryz.checked.prog (fun _ _ => 0) default).world.heap.size - Tryz.checked.prog.globals.size) =
  (begin Tryz.checked.prog (fun _ _ => 0) default).world.heap.toList.drop Tryz.checked.prog.globals.size)
 (hok : Input.okWideB Tryz.checked.prog ((z27 os).forCall (fun _ _ => 0) ⟨#[],args,[]⟩) f ⟨#[],args,[]⟩ = true)
 (hpre : s.preB enc Tryz.checked.prog fn conds apart ((z27 os).forCall (fun _ _ => 0) ⟨#[],args,[]⟩).memory args fuel = true)
 (hsz : s.sizedB enc Tryz.checked.prog fn apart ((z27 os).forCall (fun _ _ => 0) ⟨#[],args,[]⟩).memory args fuel = true) :
 ∃ (w : World) (tape : Tape) (i : Input),w.os = os ∧ (w.forCall tape i).Shaped Tryz.checked.prog ∧ i.vars = [] ∧ Input.okWide Tryz.checked.prog (w.forCall tape i) .any w.heap.size f i ∧
  ((s.pre enc Tryz.checked.prog fn conds apart (w.forCall tape i).memory i.args ∧ laidMet Tryz.prog laidL (w.forCall tape i).memory) ∧ sizedMet enc Tryz.checked.prog fn (OpenSpec.ofChange s) apart (w.forCall tape i).memory i.args) ∧ ({} : Assume).holds Tryz.checked.prog (lone (Frame.enter Tryz.checked.prog f i.args .normal) [] (w.forCall tape i)) :=
 ⟨z27 os,fun _ _ => 0,⟨#[],args,[]⟩,rfl,World.shaped_of_RefB hv hr,(Input.okWide_of_okWideB (base:=0) hok).1,(Input.okWide_of_okWideB hok).2,⟨⟨ChangeSpec.pre_of_preB hpre,laid_met os args⟩,sizedMet_of_sizedB hsz⟩,by
  simp only [Assume.holds]
  exact ⟨by simp,by simp,fun _ => Modest.zero,by simp,by simp⟩⟩
end
end Go.Proofs.YtockinpjfhhkoaaGreatDoor
