/- A part of the proof of WireTexts (part 4 of 4): the words and the walks. -/
import Derived.Test.YtnlhbkaieoogfaaGreatDoorKTxtC
set_option linter.unusedVariables false
set_option linter.unusedSimpArgs false
namespace Go.Proofs.YtnlhbkaieoogfaaGreatDoor
open Go.Lib
def childR (l : List Nod) (p : Int) (n : ByteArray) : Int:=((l.find? fun x=>decide (x.parent = p) && decide (x.name = n)).map (·.id)).getD (-1)
def inR (l : List Nod) (id : Int) : Bool:=l.any fun x=>decide (x.id = id)
def withinR (l : List Nod) : Nat→Int→Int→Bool
  | 0,_,_=>true
  | k + 1,id,top=>if id = top then true else if inR l id = false then false else withinR l k (findN l id).parent top
/-- What the document asks of a node: without what stands before it, then with it. -/
def goodR (l : List Nod) (i : Nat) : Bool :=
  let x:=l.getD i noN
  decide (1≤x.id) && decide (x.id≤1099511627776) && (decide (i = 0) || decide ((l.getD (i - 1) noN).id < x.id)) && nameOk x.name && decide (childR l x.parent x.name = x.id) && (!x.dir || decide (x.text = emp)) && okText x.text.data.toList
    && decide (cnt x.text.data.toList≤2000) && decide (sumN (l.take (i + 1))≤10000) && (decide (x.parent = 0) || (inR l x.parent && (findN l x.parent).dir && !withinR l (l.length + 1) x.parent x.id))
def soundR (l : List Nod) : Bool:=decide (l.length≤100) && allN (goodR l) l.length
def it (l : List Nod) : Nat→Int→Int
  | 0,id=>id
  | n + 1,id=>it l n (findN l id).parent
theorem it_add (l : List Nod) : ∀ (m n : Nat) (id : Int),it l (m + n) id = it l n (it l m id)
  | 0,n,id=>by rw [Nat.zero_add]; rfl
  | m + 1,n,id=>by
    rw [show m + 1 + n = (m + n) + 1 by omega];simp only [it];exact it_add l m n _
theorem rooted_iff (l : List Nod) : ∀ (k : Nat) (id : Int),rooted l k id = true ↔ ∃ n,n≤k∧it l n id = 0
  | 0,id=>by
    simp only [rooted,decide_eq_true_eq]
    constructor
    · intro h; exact ⟨0,by omega,h⟩
    · rintro ⟨n,hn,h⟩;obtain rfl : n = 0:=by omega
      exact h
  | k + 1,id=>by
    simp only [rooted,Bool.or_eq_true,decide_eq_true_eq,rooted_iff l k]
    constructor
    · rintro (h | ⟨n,hn,h⟩)
      · exact ⟨0,by omega,h⟩
      · exact ⟨n + 1,by omega,h⟩
    · rintro ⟨n,hn,h⟩
      match n,h with
      | 0,h=>exact .inl h
      | n + 1,h=>exact .inr ⟨n,by omega,h⟩
theorem least {p : Nat→Prop} [DecidablePred p] : ∀ {n : Nat},p n→∃ m,m≤n∧p m∧∀ j,j < m→¬ p j
  | n,h=>by
    induction n using Nat.strongRecOn with
    | ind n ih=>
      by_cases hh : ∃ j,j < n∧p j
      · obtain ⟨j,hj,hp⟩:=hh;obtain ⟨m,h1,h2,h3⟩:=ih j hj hp;exact ⟨m,by omega,h2,h3⟩
      · exact ⟨n,Nat.le_refl _,h,fun j hj hp=>hh ⟨j,hj,hp⟩⟩
/-- Unlike things of a list are no more than it has. -/
theorem pigeon : ∀ (a b : List Int),a.Nodup→(∀ x ∈ a,x ∈ b)→a.length≤b.length
  | [],b,_,_=>Nat.zero_le _
  | x::t,b,h1,h2=>by
    have hx : x ∈ b:=h2 x (by simp)
    have h3 : x ∉ t∧t.Nodup:=List.nodup_cons.1 h1
    have:=pigeon t (b.erase x) h3.2 (fun y hy=>(List.mem_erase_of_ne (fun e=>h3.1 (by rw [← e]; exact hy))).2 (h2 y (by simp [hy])))
    rw [List.length_erase_of_mem hx] at this
    have:=List.length_pos_of_mem hx
    simp only [List.length_cons]
    omega
theorem inR_iff {l : List Nod} {id : Int} : inR l id = true ↔ ∃ x ∈ l,x.id = id:=by
  unfold inR; simp
theorem path_nodup {l : List Nod} {id : Int} {n : Nat} (h0 : it l n id = 0) (hm : ∀ j,j < n→it l j id ≠ 0) : ((List.range n).map fun j=>it l j id).Nodup:=by
  have key : ∀ i j,i < j→j < n→it l i id ≠ it l j id:=fun i j hij hj e=>by
    have h1 : it l (n - j) (it l j id) = 0:=by rw [← it_add,show j + (n - j) = n by omega]; exact h0
    rw [← e,← it_add] at h1;exact hm (i + (n - j)) (by omega) h1
  rw [List.nodup_iff_pairwise_ne,List.pairwise_map]
  have : (List.range n).Pairwise (· < ·):=List.pairwise_lt_range
  refine List.Pairwise.imp_of_mem ?_ this;intro a b ha hb hab;exact key a b hab (List.mem_range.1 hb)
/-- A way that ends at the root is no longer than the nodes are many. -/
theorem rooted_short {l : List Nod} {id : Int} {k : Nat} (hc : ∀ x ∈ l,x.parent = 0∨inR l x.parent = true) (hid : inR l id = true) (h : rooted l k id = true) : rooted l l.length id = true:=by
  obtain ⟨n0,_,h0⟩:=(rooted_iff l k id).1 h;obtain ⟨n,_,hn,hm⟩:=least (p:=fun j=>it l j id = 0) h0;refine (rooted_iff l _ id).2 ⟨n,?_,hn⟩
  have hin : ∀ j,j < n→inR l (it l j id) = true:=by
    intro j
    induction j with
    | zero=>intro _; exact hid
    | succ j ih=>
      intro hj
      have h1:=ih (by omega)
      have h2 : it l (j + 1) id = (findN l (it l j id)).parent:=by rw [it_add l j 1]; rfl
      obtain ⟨x,hx,hxe⟩:=inR_iff.1 h1
      have h3 : ∃ y,l.find? (fun x=>decide (x.id = it l j id)) = some y:=by
        cases hf : l.find? (fun x=>decide (x.id = it l j id)) with
        | some y=>exact ⟨y,rfl⟩
        | none=>exact absurd (List.find?_eq_none.1 hf x hx) (by simp [hxe])
      obtain ⟨y,hy⟩:=h3
      have h4 : findN l (it l j id) = y:=by unfold findN; rw [hy]; rfl
      rw [h4] at h2;rw [h2]
      rcases hc y (List.mem_of_find?_eq_some hy) with e | e
      · exact absurd (h2.trans e) (hm (j + 1) hj)
      · exact e
  have:=pigeon ((List.range n).map fun j=>it l j id) (l.map (·.id)) (path_nodup hn hm) (fun x hx=>by
    obtain ⟨j,hj,rfl⟩:=List.mem_map.1 hx;obtain ⟨y,hy,e⟩:=inR_iff.1 (hin j (List.mem_range.1 hj))
    exact List.mem_map.2 ⟨y,hy,e⟩)
  simpa using this
theorem within_yes {l : List Nod} : ∀ {k : Nat} {id top : Int},withinR l k id top = false→∃ n,n < k∧inR l (it l n id) = false∧∀ m,m≤n→it l m id ≠ top
  | 0,_,_,h=>by cases h
  | k + 1,id,top,h=>by
    simp only [withinR] at h
    split at h
    · cases h
    · rename_i h1
      split at h
      · rename_i h2
        exact ⟨0,by omega,h2,fun m hm=>(by omega : m = 0) ▸ h1⟩
      · obtain ⟨n,hn,h3,h4⟩:=within_yes h;refine ⟨n + 1,by omega,h3,fun m hm=>?_⟩
        match m with
        | 0=>exact h1
        | m + 1=>exact h4 m (by omega)
theorem within_no {l : List Nod} : ∀ {k : Nat} {id top : Int} {n : Nat},n < k→inR l (it l n id) = false→(∀ m,m≤n→it l m id ≠ top)→withinR l k id top = false
  | 0,_,_,_,h,_,_=>by omega
  | k + 1,id,top,n,h,h1,h2=>by
    simp only [withinR];rw [if_neg (show ¬ id = top from h2 0 (by omega))]
    split
    · rfl
    · rename_i h3
      match n,h1,h2 with
      | 0,h1,h2=>exact absurd h1 h3
      | n + 1,h1,h2=>exact within_no (n:=n) (by omega) h1 (fun m hm=>h2 (m + 1) (by omega))
def grows (l : List Nod) : Prop:=(∀ (i : Nat) (x : Nod),l[i]? = some x→1≤x.id)∧∀ (i : Nat) (x y : Nod),l[i]? = some x→l[i + 1]? = some y→x.id < y.id
theorem grows_lt {l : List Nod} (h : grows l) : ∀ (d i : Nat) (x y : Nod),l[i]? = some x→l[i + d + 1]? = some y→x.id < y.id
  | 0,i,x,y,hx,hy=>h.2 i x y hx hy
  | d + 1,i,x,y,hx,hy=>by
    have hi:=(List.getElem?_eq_some_iff.1 hy).1
    obtain ⟨z,hz⟩ : ∃ z,l[i + d + 1]? = some z:=⟨_,List.getElem?_eq_getElem (by omega)⟩
    have h1:=grows_lt h d i x z hx hz
    have h2:=h.2 (i + d + 1) z y hz (by rw [show i + d + 1 + 1 = i + (d + 1) + 1 by omega]; exact hy)
    omega
theorem grows_inj {l : List Nod} (h : grows l) {i j : Nat} {x y : Nod} (hx : l[i]? = some x) (hy : l[j]? = some y) (e : x.id = y.id) : i = j:=by
  rcases Nat.lt_trichotomy i j with h1 | h1 | h1
  · have:=grows_lt h (j - i - 1) i x y hx (by rw [show i + (j - i - 1) + 1 = j by omega]; exact hy); omega
  · exact h1
  · have:=grows_lt h (i - j - 1) j y x hy (by rw [show j + (i - j - 1) + 1 = i by omega]; exact hx); omega
theorem find_first {l : List Nod} {p : Nod→Bool} {x : Nod} (h : l.find? p = some x) : ∃ j : Nat,l[j]? = some x∧p x = true∧∀ (k : Nat) (y : Nod),k < j→l[k]? = some y→p y = false:=by
  induction l with
  | nil=>cases h
  | cons a t ih=>
    rw [List.find?_cons] at h
    split at h
    · rename_i h1
      obtain rfl:=Option.some.inj h;exact ⟨0,rfl,h1,fun k y hk=>by omega⟩
    · rename_i h1
      obtain ⟨j,h2,h3,h4⟩:=ih h;refine ⟨j + 1,h2,h3,fun k y hk hy=>?_⟩
      match k with
      | 0=>simp at hy; subst hy; simpa using h1
      | k + 1=>exact h4 k y (by omega) hy
theorem find_id {l : List Nod} (h : grows l) {i : Nat} {x : Nod} (hx : l[i]? = some x) : findN l x.id = x:=by
  unfold findN
  cases hf : l.find? (fun y=>decide (y.id = x.id)) with
  | none=>exact absurd (List.find?_eq_none.1 hf x (List.mem_of_getElem? hx)) (by simp)
  | some y=>
    obtain ⟨j,h1,h2,_⟩:=find_first hf
    have:=grows_inj h h1 hx (of_decide_eq_true h2)
    subst this;rw [h1] at hx;exact Option.some.inj hx
theorem dir_in {l : List Nod} {id : Int} (h : (findN l id).dir = true) : inR l id = true:=by
  unfold findN at h
  cases hf : l.find? (fun x=>decide (x.id = id)) with
  | none=>rw [hf] at h; cases h
  | some y=>
    obtain ⟨j,h1,h2,_⟩:=find_first hf;exact inR_iff.2 ⟨y,List.mem_of_getElem? h1,of_decide_eq_true h2⟩
/-- One name in a directory: told by the first of it, and by those before. -/
theorem child_alone {l : List Nod} (h : grows l) {i : Nat} {x : Nod} (hx : l[i]? = some x) : childR l x.parent x.name = x.id ↔ aloneN l i = true:=by
  have hgx : l.getD i noN = x:=by rw [List.getD_eq_getElem?_getD,hx]; rfl
  unfold childR aloneN;rw [hgx]
  constructor
  · intro e;rw [Bool.not_eq_true',List.any_eq_false];intro y hy hk;obtain ⟨j,hj,hjy⟩:=List.mem_iff_getElem.1 hy;rw [List.length_take] at hj
    have hyj : l[j]? = some y:=by rw [← hjy,List.getElem_take]; exact List.getElem?_eq_getElem (by omega)
    have hk:=of_decide_eq_true hk
    unfold keyN at hk;simp only [Prod.mk.injEq] at hk
    cases hf : l.find? (fun z=>decide (z.parent = x.parent) && decide (z.name = x.name)) with
    | none=>exact absurd (List.find?_eq_none.1 hf y (List.mem_of_getElem? hyj)) (by simp [hk.1,hk.2])
    | some z=>
      rw [hf] at e;obtain ⟨m,h1,h2,h3⟩:=find_first hf
      have hmi:=grows_inj h h1 hx e
      have hjm : ¬ j < m:=fun hjm=>by
        have:=h3 j y hjm hyj
        rw [hk.1,hk.2] at this
        simp at this
      omega
  · intro e;rw [Bool.not_eq_true',List.any_eq_false] at e
    cases hf : l.find? (fun z=>decide (z.parent = x.parent) && decide (z.name = x.name)) with
    | none=>exact absurd (List.find?_eq_none.1 hf x (List.mem_of_getElem? hx)) (by simp)
    | some z=>
      obtain ⟨m,h1,h2,h3⟩:=find_first hf;simp only [Bool.and_eq_true,decide_eq_true_eq] at h2
      have hm : ¬ i < m:=fun him=>by
        have:=h3 i x him hx
        simp at this
      rcases Nat.lt_or_ge m i with hlt | hge
      · refine absurd (decide_eq_true ?_) (e z (List.mem_iff_getElem?.2 ⟨m,by rw [List.getElem?_take_of_lt hlt]; exact h1⟩));unfold keyN;rw [h2.1,h2.2]
      · obtain rfl : m = i:=by omega
        rw [h1] at hx;obtain rfl:=Option.some.inj hx
        rfl
theorem sumN_append (a b : List Nod) : sumN (a++b) = sumN a + sumN b:=by
  induction a with
  | nil=>simp [sumN]
  | cons x r ih=>simp only [List.cons_append,sumN,ih]; omega
theorem sumN_take (l : List Nod) (k : Nat) : sumN (l.take k)≤sumN l:=by
  have:=sumN_append (l.take k) (l.drop k)
  rw [List.take_append_drop] at this
  omega
theorem good_grows {l : List Nod} (h1 : ∀ i,i < l.length→1≤(l.getD i noN).id) (h2 : ∀ i,i < l.length→i = 0∨(l.getD (i - 1) noN).id < (l.getD i noN).id) : grows l:=by
  have hg : ∀ (i : Nat) (x : Nod),l[i]? = some x→l.getD i noN = x:=fun i x hx=>by rw [List.getD_eq_getElem?_getD,hx]; rfl
  constructor
  · intro i x hx
    have:=h1 i (List.getElem?_eq_some_iff.1 hx).1
    rwa [hg i x hx] at this
  · intro i x y hx hy
    have:=h2 (i + 1) (List.getElem?_eq_some_iff.1 hy).1
    rw [hg _ y hy,show i + 1 - 1 = i by omega,hg _ x hx] at this
    omega
theorem sound_load (l : List Nod) : soundR l = loadOk l:=by
  have hg : ∀ (i : Nat) (x : Nod),l[i]? = some x→l.getD i noN = x:=fun i x hx=>by rw [List.getD_eq_getElem?_getD,hx]; rfl
  have hat : ∀ i : Nat,i < l.length→∃ x : Nod,l[i]? = some x:=fun i hi=>⟨_,List.getElem?_eq_getElem hi⟩
  rw [Bool.eq_iff_iff];unfold soundR loadOk;simp only [Bool.and_eq_true,allN_iff,decide_eq_true_eq]
  constructor
  · rintro ⟨hlen,hall⟩
    have hall2 : ∀ i x,l[i]? = some x→_:=fun i x hx=>by
      have:=hall i (List.getElem?_eq_some_iff.1 hx).1
      unfold goodR at this;rw [hg i x hx] at this;simp only [Bool.and_eq_true,Bool.or_eq_true,decide_eq_true_eq,Bool.not_eq_true'] at this;exact this
    have hgr : grows l:=good_grows (fun i hi=>by
      obtain ⟨x,hx⟩:=hat i hi;rw [hg i x hx];exact (hall2 i x hx).1.1.1.1.1.1.1.1.1) (fun i hi=>by
      obtain ⟨x,hx⟩:=hat i hi;rw [hg i x hx]
      exact (hall2 i x hx).1.1.1.1.1.1.1.2)
    have hc : ∀ x ∈ l,x.parent = 0∨inR l x.parent = true:=fun x hx=>by
      obtain ⟨i,hi,rfl⟩:=List.mem_iff_getElem.1 hx
      rcases (hall2 i _ (List.getElem?_eq_getElem hi)).2 with e | e
      · exact .inl e
      · exact .inr e.1.1
    have h0 : inR l 0 = false:=by
      cases h : inR l 0 with
      | false=>rfl
      | true=>
        obtain ⟨x,hx,e⟩:=inR_iff.1 h;obtain ⟨i,hi,rfl⟩:=List.mem_iff_getElem.1 hx
        have:=hgr.1 i _ (List.getElem?_eq_getElem hi)
        omega
    refine ⟨⟨⟨⟨fun i hi=>?_,fun i hi=>?_⟩,fun i hi=>?_⟩,hlen⟩,?_⟩
    · obtain ⟨x,hx⟩:=hat i hi;obtain ⟨⟨⟨⟨⟨⟨⟨⟨⟨p1,p2⟩,p3⟩,p4⟩,p5⟩,p6⟩,p7⟩,p8⟩,p9⟩,p10⟩:=hall2 i x hx;unfold goodN sndN;rw [hg i x hx];simp only [Bool.and_eq_true,Bool.or_eq_true,decide_eq_true_eq,Bool.not_eq_true'];refine ⟨⟨⟨⟨⟨⟨p1,p2⟩,p4⟩,p7⟩,p8⟩,p6⟩,?_⟩
      split
      · omega
      · omega
    · obtain ⟨x,hx⟩:=hat i hi;obtain ⟨_,p10⟩:=hall2 i x hx
      have hxin : inR l x.id = true:=inR_iff.2 ⟨x,List.mem_of_getElem? hx,rfl⟩
      unfold standN;rw [hg i x hx];simp only [Bool.and_eq_true,Bool.or_eq_true,decide_eq_true_eq]
      rcases p10 with e | ⟨⟨e1,e2⟩,e3⟩
      · refine ⟨.inl e,rooted_short (k:=1) hc hxin ((rooted_iff l 1 _).2 ⟨1,Nat.le_refl _,?_⟩)⟩;simp only [it];rw [find_id hgr hx]; exact e
      · refine ⟨.inr e2,?_⟩;obtain ⟨n,hn,h1,h2⟩:=within_yes e3
        -- the way from the parent leaves the nodes only at the root
        have hw : ∀ m,inR l (it l m x.parent) = true∨∃ m',m'≤m∧it l m' x.parent = 0:=by
          intro m
          induction m with
          | zero=>exact .inl e1
          | succ m ih=>
            rcases ih with h | ⟨m',q1,q2⟩
            · have h2 : it l (m + 1) x.parent = (findN l (it l m x.parent)).parent:=by rw [it_add l m 1]; rfl
              obtain ⟨y,hy,e⟩:=inR_iff.1 h;obtain ⟨j,hj,rfl⟩:=List.mem_iff_getElem.1 hy;rw [← e,find_id hgr (List.getElem?_eq_getElem hj)] at h2
              rcases hc _ hy with q | q
              · exact .inr ⟨m + 1,Nat.le_refl _,h2.trans q⟩
              · rw [h2]; exact .inl q
            · exact .inr ⟨m',by omega,q2⟩
        rcases hw n with h | ⟨m',q1,q2⟩
        · rw [h] at h1; cases h1
        · refine rooted_short (k:=m' + 1) hc hxin ((rooted_iff l _ _).2 ⟨m' + 1,Nat.le_refl _,?_⟩);simp only [it];rw [find_id hgr hx]; exact q2
    · obtain ⟨x,hx⟩:=hat i hi;exact (child_alone hgr hx).1 (hall2 i x hx).1.1.1.1.1.2
    · rcases Nat.eq_zero_or_pos l.length with e | e
      · rw [List.eq_nil_of_length_eq_zero e]; simp [sumN]
      · obtain ⟨x,hx⟩:=hat (l.length - 1) (by omega)
        have:=(hall2 _ x hx).1.2
        rwa [show l.length - 1 + 1 = l.length by omega,List.take_length] at this
  · rintro ⟨⟨⟨⟨hgood,hstand⟩,halone⟩,hlen⟩,hsum⟩
    have hgood2 : ∀ i x,l[i]? = some x→_:=fun i x hx=>by
      have:=hgood i (List.getElem?_eq_some_iff.1 hx).1
      unfold goodN sndN at this;rw [hg i x hx] at this;simp only [Bool.and_eq_true,Bool.or_eq_true,decide_eq_true_eq,Bool.not_eq_true'] at this;exact this
    have hstand2 : ∀ i x,l[i]? = some x→_:=fun i x hx=>by
      have:=hstand i (List.getElem?_eq_some_iff.1 hx).1
      unfold standN at this;rw [hg i x hx] at this;simp only [Bool.and_eq_true,Bool.or_eq_true,decide_eq_true_eq] at this;exact this
    have hprev : ∀ i x,l[i]? = some x→i = 0∨(l.getD (i - 1) noN).id < x.id:=fun i x hx=>by
      have:=(hgood2 i x hx).2
      split at this
      · rename_i h; exact .inl h
      · exact .inr this
    have hgr : grows l:=good_grows (fun i hi=>by
      obtain ⟨x,hx⟩:=hat i hi;rw [hg i x hx];exact (hgood2 i x hx).1.1.1.1.1.1) (fun i hi=>by
      obtain ⟨x,hx⟩:=hat i hi;rw [hg i x hx]
      exact hprev i x hx)
    have h0 : inR l 0 = false:=by
      cases h : inR l 0 with
      | false=>rfl
      | true=>
        obtain ⟨x,hx,e⟩:=inR_iff.1 h;obtain ⟨i,hi,rfl⟩:=List.mem_iff_getElem.1 hx
        have:=hgr.1 i _ (List.getElem?_eq_getElem hi)
        omega
    refine ⟨hlen,fun i hi=>?_⟩;obtain ⟨x,hx⟩:=hat i hi;obtain ⟨⟨⟨⟨⟨⟨p1,p2⟩,p4⟩,p7⟩,p8⟩,p6⟩,p3⟩:=hgood2 i x hx;unfold goodR;rw [hg i x hx];simp only [Bool.and_eq_true,Bool.or_eq_true,decide_eq_true_eq,Bool.not_eq_true'];refine ⟨⟨⟨⟨⟨⟨⟨⟨⟨p1,p2⟩,hprev i x hx⟩,p4⟩,(child_alone hgr hx).2 (halone i hi)⟩,p6⟩,p7⟩,p8⟩,Nat.le_trans (sumN_take l _) hsum⟩,?_⟩;obtain ⟨q1,q2⟩:=hstand2 i x hx
    by_cases hp : x.parent = 0
    · exact .inl hp
    · refine .inr ⟨⟨dir_in (q1.resolve_left hp),q1.resolve_left hp⟩,?_⟩;obtain ⟨n0,hn0,e0⟩:=(rooted_iff l _ _).1 q2;obtain ⟨n,hn,e,hm⟩:=least (p:=fun j=>it l j x.id = 0) e0
      have hn1 : n ≠ 0:=fun h=>by
        rw [h] at e;simp only [it] at e
        omega
      obtain ⟨k,rfl⟩ : ∃ k,n = k + 1:=⟨n - 1,by omega⟩
      have hk : it l k x.parent = 0:=by
        simp only [it] at e;rwa [find_id hgr hx] at e
      refine within_no (n:=k) (by omega) (by rw [hk]; exact h0) (fun m hmk em=>?_)
      have h1 : it l (m + 1) x.id = x.id:=by
        simp only [it];rw [find_id hgr hx]; exact em
      have h2 : it l (k - m) x.id = 0:=by
        have:=it_add l (m + 1) (k - m) x.id
        rw [h1,show m + 1 + (k - m) = k + 1 by omega] at this;rw [← this]; exact e
      exact hm (k - m) (by omega) h2
end Go.Proofs.YtnlhbkaieoogfaaGreatDoor

set_option linter.unusedVariables false
set_option linter.unusedSimpArgs false
namespace Go.Proofs.YtnlhbkaieoogfaaGreatDoor
open Go.RowKit
theorem comp_eq {x y : Comp} (h1 : x.kind = y.kind) (h2 : x.n = y.n) (h3 : x.text = y.text) : x = y:=by cases x; cases y; simp_all
section
variable {W w : World} {cs r r' : List Ch}
theorem RSame_c {A A' : Option Addr} {n n' c c' : Nat} {xs ys : List Comp} (hs : Sep W w cs) (hk : Pick cs (.rd kComp (.slice A n c) xs) r) (hk' : Pick cs (.rd kComp (.slice A' n' c') ys) r') :
    Calls P 89 #[.slice A n c,.slice A' n' c'] w (Rt fun v w'=>v = .bool (decide (xs = ys))∧Sep W w' cs):=by
  obtain ⟨rfl,hl⟩:=hs.rd_shape hk;obtain ⟨rfl,hl'⟩:=hs.rd_shape hk';unfold maxLen at hl hl'
  have hs:=(hs.cpR hk).cpR (.there hk')
  refine enter Tryz.func89 Tryz.ntmps89 rfl rfl fun a (ha : Has a 54 [(0,_),(1,_)])=>?_;refine wp_seq_k fun K1 hK1=>?_;refine wp_region_lit ?_;refine pY ha (yAssign rfl) fun a ha=>?_;refine pZ ?_;refine hK1 _ _ ?_;refine wp_seq_k fun K2 hK2=>?_;refine wp_seq_k fun K3 hK3=>?_;refine wp_region_lit ?_;refine pY ha (yMove rfl) fun a ha=>?_;refine pY ha (yLenS Tryz.runUnderlying46 rfl) fun a ha=>?_;refine pY ha (yMove rfl) fun a ha=>?_;refine pY ha (yLenS Tryz.runUnderlying46 rfl) fun a ha=>?_;refine pY ha (yNeq rfl rfl) fun a ha=>?_;refine pZ ?_;refine hK3 _ _ ?_;refine cNDec ha rfl (fun hc10=>?_) (fun hc10=>?_)
  · refine wp_seq_k fun K4 hK4=>?_;refine wp_region_lit ?_;refine pY ha (yAssign rfl) fun a ha=>?_;refine pZ ?_;refine hK4 _ _ ?_;refine wp_ret ?_;show bodyPost Tryz.prog Tryz.f89 _ .ret _ _;refine ret1 rfl ha rfl ?_;exact ⟨congrArg Value.bool (decide_eq_false (by rintro rfl; exact hc10 rfl)).symm,hs.drop.drop⟩
  · refine wp_skip ?_;refine hK2 _ _ ?_;refine wp_seq_k fun K5 hK5=>?_;refine wp_seq_k fun K6 hK6=>?_;refine wp_region_lit ?_;refine pY ha (yAssign rfl) fun a ha=>?_;refine pZ ?_;refine hK6 _ _ ?_;refine wp_block ?_;refine loopI (ι:=Nat) (fun i a w=>i≤xs.length∧xs.take i = ys.take i∧Has a 54 [(0,.slice A xs.length c),(1,.slice A' ys.length c'),(5,.int .i64 i)]∧Sep W w (.rd kComp (.slice A' ys.length c') ys::.rd kComp (.slice A xs.length c) xs::cs)) (fun i=>xs.length - i) (0) ?_ ?_
    · exact ⟨Nat.zero_le _,rfl,has3 ha rfl rfl rfl,hs⟩
    · rintro i a w ⟨h1,h2,ha,hs⟩;refine wp_seq_k fun K7 hK7=>?_;refine wp_seq_k fun K8 hK8=>?_;refine wp_region_lit ?_;refine pY ha (yMove rfl) fun a ha=>?_;refine pY ha (yMove rfl) fun a ha=>?_;refine pY ha (yLenS Tryz.runUnderlying46 rfl) fun a ha=>?_;refine pY ha (yLss rfl rfl) fun a ha=>?_;refine pZ ?_;refine hK8 _ _ ?_;refine cDec ha rfl (fun hc14=>?_) (fun hc14=>?_)
      · refine wp_skip ?_;refine hK7 _ _ ?_;refine wp_seq_k fun K9 hK9=>?_;refine wp_block ?_;refine wp_seq_k fun K10 hK10=>?_;obtain ⟨x,hx⟩ : ∃ x,xs[i]? = some x:=⟨_,List.getElem?_eq_getElem (by omega)⟩;obtain ⟨y,hy⟩ : ∃ y,ys[i]? = some y:=⟨_,List.getElem?_eq_getElem (by omega)⟩;obtain ⟨b,off,rfl,hs⟩:=hs.rd_comp (.there .here) hx;obtain ⟨b',off',rfl,hs⟩:=hs.rd_comp (.there .here) hy;refine dStart (fun w=>Sep W w _) [] 137438953471 137438953471 (by kernel_rfl) (by kernel_rfl) rfl (hs.drew) ?_
        have hs:=Sep.drew hs
        generalize World.drew _ = w at hs ⊢;refine dP 0 1 rfl ha (fun _=>yMove rfl) fun a ha=>?_;refine dP 1 3 rfl ha (fun _=>yMove rfl) fun a ha=>?_;refine dP 2 7 rfl ha (fun _=>yIndexA Tryz.runUnderlying46 Tryz.sizeOf45 rfl rfl (by omega) (by omega)) fun a ha=>?_;refine dP 3 15 rfl ha (fun _=>yFieldA Tryz.runUnderlying45 rfl Tryz.sizeOf3 rfl rfl) fun a ha=>?_;refine dT 4 31 rfl ha (fun _ hs=>yLoadR Tryz.isAgg3 hs rfl pk1 rfl) (hs) fun a ha=>?_;refine dP 5 63 rfl ha (fun _=>yMove rfl) fun a ha=>?_;refine dP 6 127 rfl ha (fun _=>yMove rfl) fun a ha=>?_;refine dP 7 255 rfl ha (fun _=>yIndexA Tryz.runUnderlying46 Tryz.sizeOf45 rfl rfl (by omega) (by omega)) fun a ha=>?_;refine dP 8 511 rfl ha (fun _=>yFieldA Tryz.runUnderlying45 rfl Tryz.sizeOf3 rfl rfl) fun a ha=>?_;refine dT 9 1023 rfl ha (fun _ hs=>yLoadR Tryz.isAgg3 hs rfl pk0 rfl) (hs) fun a ha=>?_;refine dP 10 2047 rfl ha (fun _=>yNeq rfl rfl) fun a ha=>?_;refine dP 11 4095 rfl ha (fun _=>yMove rfl) fun a ha=>?_;refine gSplit (t:=28) ha rfl (fun hg11=>?_) (fun hg11=>?_)
        · rw [hg11] at ha
          have hp11 : x.kind = y.kind:=by simpa using hg11
          refine dP 12 8191 rfl ha (fun _=>yMove rfl) fun a ha=>?_;refine dP 13 16383 rfl ha (fun _=>yMove rfl) fun a ha=>?_;refine dP 14 32767 rfl ha (fun _=>yIndexA Tryz.runUnderlying46 Tryz.sizeOf45 rfl rfl (by omega) (by omega)) fun a ha=>?_;refine dP 15 65535 rfl ha (fun _=>yFieldA Tryz.runUnderlying45 rfl Tryz.sizeOf3 rfl rfl) fun a ha=>?_;refine dT 16 131071 rfl ha (fun _ hs=>yLoadR Tryz.isAgg3 hs rfl pk1 rfl) (hs) fun a ha=>?_;refine dP 17 262143 rfl ha (fun _=>yMove rfl) fun a ha=>?_;refine dP 18 524287 rfl ha (fun _=>yMove rfl) fun a ha=>?_;refine dP 19 1048575 rfl ha (fun _=>yIndexA Tryz.runUnderlying46 Tryz.sizeOf45 rfl rfl (by omega) (by omega)) fun a ha=>?_;refine dP 20 2097151 rfl ha (fun _=>yFieldA Tryz.runUnderlying45 rfl Tryz.sizeOf3 rfl rfl) fun a ha=>?_;refine dT 21 4194303 rfl ha (fun _ hs=>yLoadR Tryz.isAgg3 hs rfl pk0 rfl) (hs) fun a ha=>?_;refine dP 22 8388607 rfl ha (fun _=>yNeq rfl rfl) fun a ha=>?_;refine dP 23 16777215 rfl ha (fun _=>yPickF rfl rfl) fun a ha=>?_;refine dP 24 33554431 rfl ha (fun _=>yMove rfl) fun a ha=>?_;refine gSplit (t:=41) ha rfl (fun hg24=>?_) (fun hg24=>?_)
          · rw [hg24] at ha
            have hp24 : x.n = y.n:=by simpa using hg24
            refine dP 25 67108863 rfl ha (fun _=>yMove rfl) fun a ha=>?_;refine dP 26 134217727 rfl ha (fun _=>yMove rfl) fun a ha=>?_;refine dP 27 268435455 rfl ha (fun _=>yIndexA Tryz.runUnderlying46 Tryz.sizeOf45 rfl rfl (by omega) (by omega)) fun a ha=>?_;refine dP 28 536870911 rfl ha (fun _=>yFieldA Tryz.runUnderlying45 rfl Tryz.sizeOf9 rfl rfl) fun a ha=>?_;refine dT 29 1073741823 rfl ha (fun _ hs=>yLoadR Tryz.isAgg9 hs rfl pk1 rfl) (hs) fun a ha=>?_;refine dP 30 2147483647 rfl ha (fun _=>yMove rfl) fun a ha=>?_;refine dP 31 4294967295 rfl ha (fun _=>yMove rfl) fun a ha=>?_;refine dP 32 8589934591 rfl ha (fun _=>yIndexA Tryz.runUnderlying46 Tryz.sizeOf45 rfl rfl (by omega) (by omega)) fun a ha=>?_;refine dP 33 17179869183 rfl ha (fun _=>yFieldA Tryz.runUnderlying45 rfl Tryz.sizeOf9 rfl rfl) fun a ha=>?_;refine dT 34 34359738367 rfl ha (fun _ hs=>yLoadR Tryz.isAgg9 hs rfl pk0 rfl) (hs) fun a ha=>?_;refine dP 35 68719476735 rfl ha (fun _=>yStrNeq rfl rfl) fun a ha=>?_;refine dP 36 137438953471 rfl ha (fun _=>yPickF rfl rfl) fun a ha=>?_;refine dZ (by kernel_rfl) ?_;refine hK10 _ _ ?_;refine cNDec ha rfl (fun hc53=>?_) (fun hc53=>?_)
            · refine wp_seq_k fun K11 hK11=>?_;refine wp_region_lit ?_;refine pY ha (yAssign rfl) fun a ha=>?_;refine pZ ?_;refine hK11 _ _ ?_;refine wp_ret ?_;show bodyPost Tryz.prog Tryz.f89 _ .ret _ _;refine ret1 rfl ha rfl ?_;exact ⟨congrArg Value.bool (decide_eq_false (take_ne hx hy (by rintro rfl; simp at hc53))).symm,hs.drop.drop.drop.drop⟩
            · refine wp_skip ?_;refine hK9 _ _ ?_;refine wp_region_lit ?_;refine pY ha (yMove rfl) fun a ha=>?_;refine pY ha (yAddN rfl rfl ⟨by omega,by omega⟩) fun a ha=>?_;refine pY ha (yAssign rfl) fun a ha=>?_;refine pZ ?_;exact ⟨i + 1,⟨by omega,take_more h2 hx hy (comp_eq hp11 hp24 (by simpa using hc53)),has3 ha rfl rfl rfl,hs.drop.drop⟩,by omega⟩
          · rw [hg24] at ha
            have hp24 : x.n ≠ y.n:=by simpa using hg24
            refine dOff 25 67108863 rfl ha fun a ha=>?_;refine dOff 26 134217727 rfl ha fun a ha=>?_;refine dOff 27 268435455 rfl ha fun a ha=>?_;refine dOff 28 536870911 rfl ha fun a ha=>?_;refine dOff 29 1073741823 rfl ha fun a ha=>?_;refine dOff 30 2147483647 rfl ha fun a ha=>?_;refine dOff 31 4294967295 rfl ha fun a ha=>?_;refine dOff 32 8589934591 rfl ha fun a ha=>?_;refine dOff 33 17179869183 rfl ha fun a ha=>?_;refine dOff 34 34359738367 rfl ha fun a ha=>?_;refine dOff 35 68719476735 rfl ha fun a ha=>?_;refine dP 36 137438953471 rfl ha (fun _=>yPickT rfl rfl) fun a ha=>?_;refine dZ (by kernel_rfl) ?_;refine hK10 _ _ ?_;refine cTrue ha rfl ?_;refine wp_seq_k fun K12 hK12=>?_;refine wp_region_lit ?_;refine pY ha (yAssign rfl) fun a ha=>?_;refine pZ ?_;refine hK12 _ _ ?_;refine wp_ret ?_;show bodyPost Tryz.prog Tryz.f89 _ .ret _ _;refine ret1 rfl ha rfl ?_;exact ⟨congrArg Value.bool (decide_eq_false (take_ne hx hy (by rintro rfl; exact hp24 rfl))).symm,hs.drop.drop.drop.drop⟩
        · rw [hg11] at ha
          have hp11 : x.kind ≠ y.kind:=by simpa using hg11
          refine dOff 12 8191 rfl ha fun a ha=>?_;refine dOff 13 16383 rfl ha fun a ha=>?_;refine dOff 14 32767 rfl ha fun a ha=>?_;refine dOff 15 65535 rfl ha fun a ha=>?_;refine dOff 16 131071 rfl ha fun a ha=>?_;refine dOff 17 262143 rfl ha fun a ha=>?_;refine dOff 18 524287 rfl ha fun a ha=>?_;refine dOff 19 1048575 rfl ha fun a ha=>?_;refine dOff 20 2097151 rfl ha fun a ha=>?_;refine dOff 21 4194303 rfl ha fun a ha=>?_;refine dOff 22 8388607 rfl ha fun a ha=>?_;refine dP 23 16777215 rfl ha (fun _=>yPickT rfl rfl) fun a ha=>?_;refine dP 24 33554431 rfl ha (fun _=>yMove rfl) fun a ha=>?_;refine dOff 25 67108863 rfl ha fun a ha=>?_;refine dOff 26 134217727 rfl ha fun a ha=>?_;refine dOff 27 268435455 rfl ha fun a ha=>?_;refine dOff 28 536870911 rfl ha fun a ha=>?_;refine dOff 29 1073741823 rfl ha fun a ha=>?_;refine dOff 30 2147483647 rfl ha fun a ha=>?_;refine dOff 31 4294967295 rfl ha fun a ha=>?_;refine dOff 32 8589934591 rfl ha fun a ha=>?_;refine dOff 33 17179869183 rfl ha fun a ha=>?_;refine dOff 34 34359738367 rfl ha fun a ha=>?_;refine dOff 35 68719476735 rfl ha fun a ha=>?_;refine dP 36 137438953471 rfl ha (fun _=>yPickT rfl rfl) fun a ha=>?_;refine dZ (by kernel_rfl) ?_;refine hK10 _ _ ?_;refine cTrue ha rfl ?_;refine wp_seq_k fun K13 hK13=>?_;refine wp_region_lit ?_;refine pY ha (yAssign rfl) fun a ha=>?_;refine pZ ?_;refine hK13 _ _ ?_;refine wp_ret ?_;show bodyPost Tryz.prog Tryz.f89 _ .ret _ _;refine ret1 rfl ha rfl ?_;exact ⟨congrArg Value.bool (decide_eq_false (take_ne hx hy (by rintro rfl; exact hp11 rfl))).symm,hs.drop.drop.drop.drop⟩
      · refine wp_exit ?_;refine hK5 _ _ ?_;refine wp_seq_k fun K14 hK14=>?_;refine wp_region_lit ?_;refine pY ha (yAssign rfl) fun a ha=>?_;refine pZ ?_;refine hK14 _ _ ?_;refine wp_ret ?_;show bodyPost Tryz.prog Tryz.f89 _ .ret _ _;refine ret1 rfl ha rfl ?_
        (rw [List.take_of_length_le (by omega),List.take_of_length_le (by omega)] at h2; exact ⟨congrArg Value.bool (decide_eq_true h2).symm,hs.drop.drop⟩)
theorem RSameA_c {A A' : Option Addr} {n n' c c' : Nat} {x y : Actn} (hs : Sep W w cs) (hk : Pick cs (.rd kComp (.slice A n c) x.ops) r) (hk' : Pick cs (.rd kComp (.slice A' n' c') y.ops) r') :
    Calls P 49 #[.agg [.int .i64 x.kind,.int .i64 x.id,.int .i64 x.parent,.string x.name,.bool x.dir,.slice A n c].toArray,.agg [.int .i64 y.kind,.int .i64 y.id,.int .i64 y.parent,.string y.name,.bool y.dir,.slice A' n' c'].toArray] w (Rt fun v w'=>v = .bool (decide (x = y))∧Sep W w' cs):=by
  refine enter Tryz.func49 Tryz.ntmps49 rfl rfl fun a (ha : Has a 45 [(0,_),(1,_)])=>?_;refine wp_seq_k fun K1 hK1=>?_
  have key : x.kind = y.kind∧x.id = y.id∧x.parent = y.parent∧x.name = y.name∧x.dir = y.dir∧x.ops = y.ops ↔ x = y:=⟨fun ⟨h1,h2,h3,h4,h5,h6⟩=>by cases x; cases y; simp_all,by rintro rfl; exact ⟨rfl,rfl,rfl,rfl,rfl,rfl⟩⟩
  refine wp_region_lit ?_;refine pBox (es:=_) ha rfl rfl hs rfl fun b w hs a ha=>?_;refine pBox (es:=_) ha rfl rfl hs rfl fun b w hs a ha=>?_;refine pY ha (yAssign rfl) fun a ha=>?_;refine pZ ?_;refine hK1 _ _ ?_;refine wp_seq_k fun K2 hK2=>?_;refine wp_region_lit ?_;refine pY ha (yFieldA Tryz.runUnderlying48 rfl Tryz.sizeOf3 rfl rfl) fun a ha=>?_;refine pY ha (yLoadB Tryz.isAgg3 hs rfl pk1 rfl) fun a ha=>?_;refine pY ha (yFieldA Tryz.runUnderlying48 rfl Tryz.sizeOf3 rfl rfl) fun a ha=>?_;refine pY ha (yLoadB Tryz.isAgg3 hs rfl pk0 rfl) fun a ha=>?_;refine pY ha (yEql rfl rfl) fun a ha=>?_;refine pY ha (yMove rfl) fun a ha=>?_;refine gDec (t:=10) ha rfl (fun hg5 hp5=>?_) (fun hg5 hp5=>?_)
  · rw [hg5] at ha;refine gOff ha fun a ha=>?_;refine gOff ha fun a ha=>?_;refine gOff ha fun a ha=>?_;refine gOff ha fun a ha=>?_;refine gOff ha fun a ha=>?_;refine pY ha (yPickF rfl rfl) fun a ha=>?_;refine pY ha (yMove rfl) fun a ha=>?_;refine gOff ha fun a ha=>?_;refine gOff ha fun a ha=>?_;refine gOff ha fun a ha=>?_;refine gOff ha fun a ha=>?_;refine gOff ha fun a ha=>?_;refine pY ha (yPickF rfl rfl) fun a ha=>?_;refine pY ha (yMove rfl) fun a ha=>?_;refine gOff ha fun a ha=>?_;refine gOff ha fun a ha=>?_;refine gOff ha fun a ha=>?_;refine gOff ha fun a ha=>?_;refine gOff ha fun a ha=>?_;refine pY ha (yPickF rfl rfl) fun a ha=>?_;refine pY ha (yMove rfl) fun a ha=>?_;refine gOff ha fun a ha=>?_;refine gOff ha fun a ha=>?_;refine gOff ha fun a ha=>?_;refine gOff ha fun a ha=>?_;refine gOff ha fun a ha=>?_;refine pY ha (yPickF rfl rfl) fun a ha=>?_;refine pY ha (yMove rfl) fun a ha=>?_;refine gOff ha fun a ha=>?_;refine gOff ha fun a ha=>?_;refine gOff ha fun a ha=>?_;refine gOff ha fun a ha=>?_;refine gOff ha fun a ha=>?_;refine pY ha (yPickF rfl rfl) fun a ha=>?_;refine pY ha (yAssign rfl) fun a ha=>?_;refine pZ ?_;refine hK2 _ _ ?_;refine wp_ret ?_;show bodyPost Tryz.prog Tryz.f49 _ .ret _ _;refine ret1 rfl ha rfl ?_;refine ⟨?_,hs.drop.drop⟩;exact congrArg Value.bool (decide_eq_false (fun h=>by have h:=key.2 h; exact hp5 h.1)).symm
  · rw [hg5] at ha;refine gOn ha ?_;refine pY ha (yFieldA Tryz.runUnderlying48 rfl Tryz.sizeOf3 rfl rfl) fun a ha=>?_;refine gOn ha ?_;refine pY ha (yLoadB Tryz.isAgg3 hs rfl pk1 rfl) fun a ha=>?_;refine gOn ha ?_;refine pY ha (yFieldA Tryz.runUnderlying48 rfl Tryz.sizeOf3 rfl rfl) fun a ha=>?_;refine gOn ha ?_;refine pY ha (yLoadB Tryz.isAgg3 hs rfl pk0 rfl) fun a ha=>?_;refine gOn ha ?_;refine pY ha (yEql rfl rfl) fun a ha=>?_;refine pY ha (yPickT rfl rfl) fun a ha=>?_;refine pY ha (yMove rfl) fun a ha=>?_;refine gSplit (t:=17) ha rfl (fun hg12=>?_) (fun hg12=>?_)
    · rw [hg12] at ha
      have hp12:=of_decide_eq_false hg12
      refine gOff ha fun a ha=>?_;refine gOff ha fun a ha=>?_;refine gOff ha fun a ha=>?_;refine gOff ha fun a ha=>?_;refine gOff ha fun a ha=>?_;refine pY ha (yPickF rfl rfl) fun a ha=>?_;refine pY ha (yMove rfl) fun a ha=>?_;refine gOff ha fun a ha=>?_;refine gOff ha fun a ha=>?_;refine gOff ha fun a ha=>?_;refine gOff ha fun a ha=>?_;refine gOff ha fun a ha=>?_;refine pY ha (yPickF rfl rfl) fun a ha=>?_;refine pY ha (yMove rfl) fun a ha=>?_;refine gOff ha fun a ha=>?_;refine gOff ha fun a ha=>?_;refine gOff ha fun a ha=>?_;refine gOff ha fun a ha=>?_;refine gOff ha fun a ha=>?_;refine pY ha (yPickF rfl rfl) fun a ha=>?_;refine pY ha (yMove rfl) fun a ha=>?_;refine gOff ha fun a ha=>?_;refine gOff ha fun a ha=>?_;refine gOff ha fun a ha=>?_;refine gOff ha fun a ha=>?_;refine gOff ha fun a ha=>?_;refine pY ha (yPickF rfl rfl) fun a ha=>?_;refine pY ha (yAssign rfl) fun a ha=>?_;refine pZ ?_;refine hK2 _ _ ?_;refine wp_ret ?_;show bodyPost Tryz.prog Tryz.f49 _ .ret _ _;refine ret1 rfl ha rfl ?_;refine ⟨?_,hs.drop.drop⟩;exact congrArg Value.bool (decide_eq_false (fun h=>by have h:=key.2 h; exact hp12 h.2.1)).symm
    · rw [hg12] at ha
      have hp12:=of_decide_eq_true hg12
      refine gOn ha ?_;refine pY ha (yFieldA Tryz.runUnderlying48 rfl Tryz.sizeOf3 rfl rfl) fun a ha=>?_;refine gOn ha ?_;refine pY ha (yLoadB Tryz.isAgg3 hs rfl pk1 rfl) fun a ha=>?_;refine gOn ha ?_;refine pY ha (yFieldA Tryz.runUnderlying48 rfl Tryz.sizeOf3 rfl rfl) fun a ha=>?_;refine gOn ha ?_;refine pY ha (yLoadB Tryz.isAgg3 hs rfl pk0 rfl) fun a ha=>?_;refine gOn ha ?_;refine pY ha (yEql rfl rfl) fun a ha=>?_;refine pY ha (yPickT rfl rfl) fun a ha=>?_;refine pY ha (yMove rfl) fun a ha=>?_;refine gSplit (t:=24) ha rfl (fun hg19=>?_) (fun hg19=>?_)
      · rw [hg19] at ha
        have hp19:=of_decide_eq_false hg19
        refine gOff ha fun a ha=>?_;refine gOff ha fun a ha=>?_;refine gOff ha fun a ha=>?_;refine gOff ha fun a ha=>?_;refine gOff ha fun a ha=>?_;refine pY ha (yPickF rfl rfl) fun a ha=>?_;refine pY ha (yMove rfl) fun a ha=>?_;refine gOff ha fun a ha=>?_;refine gOff ha fun a ha=>?_;refine gOff ha fun a ha=>?_;refine gOff ha fun a ha=>?_;refine gOff ha fun a ha=>?_;refine pY ha (yPickF rfl rfl) fun a ha=>?_;refine pY ha (yMove rfl) fun a ha=>?_;refine gOff ha fun a ha=>?_;refine gOff ha fun a ha=>?_;refine gOff ha fun a ha=>?_;refine gOff ha fun a ha=>?_;refine gOff ha fun a ha=>?_;refine pY ha (yPickF rfl rfl) fun a ha=>?_;refine pY ha (yAssign rfl) fun a ha=>?_;refine pZ ?_;refine hK2 _ _ ?_;refine wp_ret ?_;show bodyPost Tryz.prog Tryz.f49 _ .ret _ _;refine ret1 rfl ha rfl ?_;refine ⟨?_,hs.drop.drop⟩;exact congrArg Value.bool (decide_eq_false (fun h=>by have h:=key.2 h; exact hp19 h.2.2.1)).symm
      · rw [hg19] at ha
        have hp19:=of_decide_eq_true hg19
        refine gOn ha ?_;refine pY ha (yFieldA Tryz.runUnderlying48 rfl Tryz.sizeOf9 rfl rfl) fun a ha=>?_;refine gOn ha ?_;refine pY ha (yLoadB Tryz.isAgg9 hs rfl pk1 rfl) fun a ha=>?_;refine gOn ha ?_;refine pY ha (yFieldA Tryz.runUnderlying48 rfl Tryz.sizeOf9 rfl rfl) fun a ha=>?_;refine gOn ha ?_;refine pY ha (yLoadB Tryz.isAgg9 hs rfl pk0 rfl) fun a ha=>?_;refine gOn ha ?_;refine pY ha (yStrEql rfl rfl) fun a ha=>?_;refine pY ha (yPickT rfl rfl) fun a ha=>?_;refine pY ha (yMove rfl) fun a ha=>?_;refine gSplit (t:=31) ha rfl (fun hg26=>?_) (fun hg26=>?_)
        · rw [hg26] at ha
          have hp26:=of_decide_eq_false hg26
          refine gOff ha fun a ha=>?_;refine gOff ha fun a ha=>?_;refine gOff ha fun a ha=>?_;refine gOff ha fun a ha=>?_;refine gOff ha fun a ha=>?_;refine pY ha (yPickF rfl rfl) fun a ha=>?_;refine pY ha (yMove rfl) fun a ha=>?_;refine gOff ha fun a ha=>?_;refine gOff ha fun a ha=>?_;refine gOff ha fun a ha=>?_;refine gOff ha fun a ha=>?_;refine gOff ha fun a ha=>?_;refine pY ha (yPickF rfl rfl) fun a ha=>?_;refine pY ha (yAssign rfl) fun a ha=>?_;refine pZ ?_;refine hK2 _ _ ?_;refine wp_ret ?_;show bodyPost Tryz.prog Tryz.f49 _ .ret _ _;refine ret1 rfl ha rfl ?_;refine ⟨?_,hs.drop.drop⟩;exact congrArg Value.bool (decide_eq_false (fun h=>by have h:=key.2 h; exact hp26 h.2.2.2.1)).symm
        · rw [hg26] at ha
          have hp26:=of_decide_eq_true hg26
          refine gOn ha ?_;refine pY ha (yFieldA Tryz.runUnderlying48 rfl Tryz.sizeOf4 rfl rfl) fun a ha=>?_;refine gOn ha ?_;refine pY ha (yLoadB Tryz.isAgg4 hs rfl pk1 rfl) fun a ha=>?_;refine gOn ha ?_;refine pY ha (yFieldA Tryz.runUnderlying48 rfl Tryz.sizeOf4 rfl rfl) fun a ha=>?_;refine gOn ha ?_;refine pY ha (yLoadB Tryz.isAgg4 hs rfl pk0 rfl) fun a ha=>?_;refine gOn ha ?_;refine pY ha (yBoolEql Tryz.underlying4 rfl rfl) fun a ha=>?_;refine pY ha (yPickT rfl rfl) fun a ha=>?_;refine pY ha (yMove rfl) fun a ha=>?_;refine gSplit (t:=38) ha rfl (fun hg33=>?_) (fun hg33=>?_)
          · rw [hg33] at ha
            have hp33:=of_decide_eq_false hg33
            refine gOff ha fun a ha=>?_;refine gOff ha fun a ha=>?_;refine gOff ha fun a ha=>?_;refine gOff ha fun a ha=>?_;refine gOff ha fun a ha=>?_;refine pY ha (yPickF rfl rfl) fun a ha=>?_;refine pY ha (yAssign rfl) fun a ha=>?_;refine pZ ?_;refine hK2 _ _ ?_;refine wp_ret ?_;show bodyPost Tryz.prog Tryz.f49 _ .ret _ _;refine ret1 rfl ha rfl ?_;refine ⟨?_,hs.drop.drop⟩;exact congrArg Value.bool (decide_eq_false (fun h=>by have h:=key.2 h; exact hp33 h.2.2.2.2.1)).symm
          · rw [hg33] at ha
            have hp33:=of_decide_eq_true hg33
            refine gOn ha ?_;refine pY ha (yFieldA Tryz.runUnderlying48 rfl Tryz.sizeOf46 rfl rfl) fun a ha=>?_;refine gOn ha ?_;refine pY ha (yLoadB Tryz.isAgg46 hs rfl pk1 rfl) fun a ha=>?_;refine gOn ha ?_;refine pY ha (yFieldA Tryz.runUnderlying48 rfl Tryz.sizeOf46 rfl rfl) fun a ha=>?_;refine gOn ha ?_;refine pY ha (yLoadB Tryz.isAgg46 hs rfl pk0 rfl) fun a ha=>?_;refine gOn ha ?_;refine pC ha (nCall Tryz.call89 rfl) rfl (RSame_c hs (.there (.there hk)) (.there (.there hk'))) ?_;rintro v w ⟨rfl,hs⟩ a ha;refine pY ha (yPickT rfl rfl) fun a ha=>?_;refine pY ha (yAssign rfl) fun a ha=>?_;refine pZ ?_;refine hK2 _ _ ?_;refine wp_ret ?_;show bodyPost Tryz.prog Tryz.f49 _ .ret _ _;refine ret1 rfl ha rfl ?_;refine ⟨?_,hs.drop.drop⟩;exact congrArg Value.bool (decide_eq_decide.2 ⟨fun h=>key.1 ⟨hp5,hp12,hp19,hp26,hp33,h⟩,fun h=>(key.2 h).2.2.2.2.2⟩)
end
end Go.Proofs.YtnlhbkaieoogfaaGreatDoor

set_option linter.unusedVariables false
set_option linter.unusedSimpArgs false
namespace Go.Proofs.YtnlhbkaieoogfaaGreatDoor
open Go.RowKit Go.Lib
theorem iE {a b : Int} (h : a = b) : some (Value.int .i64 a) = some (.int .i64 b):=by rw [h]
def badL (b : UInt8) : Prop:=¬ (97≤b.toNat∧b.toNat≤122)∧¬ (48≤b.toNat∧b.toNat≤57)∧b.toNat ≠ 46∧b.toNat ≠ 45∧b.toNat ≠ 95
instance (b : UInt8) : Decidable (badL b):=by unfold badL; infer_instance
theorem badL_letter {b : UInt8} : badL b ↔ letter b = false:=by
  unfold badL letter;simp only [Bool.or_eq_false_iff,decide_eq_false_iff_not]
  omega
theorem sndC_13 {x : Comp} (h : x.kind = 1∨x.kind = 3) : sndC x = (decide (x.n > 0) && decide (x.text = emp)):=by unfold sndC; rw [if_neg (by omega),if_pos h]
theorem sndC_2 {x : Comp} (h : x.kind = 2) : sndC x = (decide (x.n = 0) && !decide (x.text = emp) && okText x.text.data.toList):=by unfold sndC; rw [if_pos h]
theorem sndC_no {x : Comp} (h1 : ¬ (x.kind = 1∨x.kind = 3)) (h2 : x.kind ≠ 2) : sndC x = false:=by unfold sndC; rw [if_neg h2,if_neg h1]
section
variable {W w : World} {cs r r' : List Ch}
theorem Points_k (s : ByteArray) (hok : okText s.data.toList = true) (hsz : s.size≤140737488355328 / 8) (hs : Sep W w cs) :
    Calls P 93 #[.string s] w (Rt fun v w'=>∃ A c,v = .tuple #[.slice A (cnt s.data.toList) c,.bool true]∧Sep W w' cs) :=
  (Points_c s hsz hs).mono fun e w' h=>by
    cases e with
    | returned v=>
      change (match ptsOf s with | none=>_ | some ps=>_) at h
      show ∃ A c,_
      have hp : (ptsOf s).isSome = okText s.data.toList:=by
        unfold ptsOf;rw [Option.isSome_map];exact points_ok _ _ (by simp)
      rw [hok] at hp;obtain ⟨ps,hps⟩:=Option.isSome_iff_exists.1 hp;rw [hps] at h;obtain ⟨A,c,rfl,h⟩:=h;unfold ptsOf at hps;rw [Option.map_eq_some_iff] at hps;obtain ⟨qs,hq,rfl⟩:=hps
      have:=points_cnt s.size s.data.toList qs (by simp) hok hq
      rw [List.length_map,this];exact ⟨A,c,rfl,h.drop⟩
    | _=>exact h
theorem RCount_c (s : ByteArray) (hok : okText s.data.toList = true) (hsz : s.size≤140737488355328 / 8) (hs : Sep W w cs) :
    Calls P 53 #[.string s] w (Rt fun v w'=>v = .int .i64 (cnt s.data.toList)∧Sep W w' cs):=by
  refine enter Tryz.func53 Tryz.ntmps53 rfl rfl fun a (ha : Has a 12 [(0,_)])=>?_;refine wp_seq_k fun K1 hK1=>?_;refine wp_region_lit ?_;refine pY ha (yAssign rfl) fun a ha=>?_;refine pZ ?_;refine hK1 _ _ ?_;refine wp_seq_k fun K2 hK2=>?_;refine wp_region_lit ?_;refine pY ha (yMove rfl) fun a ha=>?_;refine pC ha (nCall Tryz.call93 rfl) rfl (Points_k s hok hsz hs) ?_;rintro v w ⟨A,c,rfl,hs⟩ a ha;refine pY ha (yMove rfl) fun a ha=>?_;refine pY ha (yExtract rfl rfl) fun a ha=>?_;refine pY ha (yExtract rfl rfl) fun a ha=>?_;refine pY ha (yAssign rfl) fun a ha=>?_;refine pY ha (yAssign rfl) fun a ha=>?_;refine pZ ?_;refine hK2 _ _ ?_;refine wp_seq_k fun K3 hK3=>?_;refine wp_region_lit ?_;refine pY ha (yMove rfl) fun a ha=>?_;refine pY ha (yLenS Tryz.runUnderlying93 rfl) fun a ha=>?_;refine pY ha (yAssign rfl) fun a ha=>?_;refine pZ ?_;refine hK3 _ _ ?_;refine wp_ret ?_;show bodyPost Tryz.prog Tryz.f53 _ .ret _ _;refine ret1 rfl ha rfl ?_;exact ⟨rfl,hs⟩
theorem RLoose_c (s : ByteArray) (hok : okText s.data.toList = true) (hsz : s.size≤140737488355328 / 8) (hs : Sep W w cs) :
    Calls P 116 #[.string s] w (Rt fun v w'=>v = .int .i64 (cnt s.data.toList)∧Sep W w' cs):=by
  have hall:=cnt_le s.data.toList
  have hlen : s.data.toList.length = s.size:=by simp
  refine enter Tryz.func116 Tryz.ntmps116 rfl rfl fun a (ha : Has a 27 [(0,_)])=>?_;refine wp_seq_k fun K1 hK1=>?_;refine wp_region_lit ?_;refine pY ha (yAssign rfl) fun a ha=>?_;refine pZ ?_;refine hK1 _ _ ?_;refine wp_seq_k fun K2 hK2=>?_;refine wp_region_lit ?_;refine pY ha (yAssign rfl) fun a ha=>?_;refine pZ ?_;refine hK2 _ _ ?_;refine wp_seq_k fun K3 hK3=>?_;refine wp_seq_k fun K4 hK4=>?_;refine wp_region_lit ?_;refine pY ha (yAssign rfl) fun a ha=>?_;refine pZ ?_;refine hK4 _ _ ?_;refine wp_block ?_;refine loopI (ι:=Nat × Nat) (fun i a w=>i.1≤s.size∧okText (s.data.toList.drop i.1) = true∧i.2 + cnt (s.data.toList.drop i.1) = cnt s.data.toList∧Has a 27 [(0,.string s),(3,.int .i64 i.2),(4,.int .i64 i.1)]∧Sep W w cs) (fun i=>s.size - i.1) ((0,0)) ?_ ?_
  · exact ⟨Nat.zero_le _,hok,by simp,has3 ha rfl rfl rfl,hs⟩
  · rintro i a w ⟨h1,h2,h3,ha,hs⟩;obtain ⟨i,n⟩:=i; simp only at h1 h2 h3 ha hs;refine wp_seq_k fun K5 hK5=>?_;refine wp_seq_k fun K6 hK6=>?_;refine wp_region_lit ?_;refine pY ha (yMove rfl) fun a ha=>?_;refine pY ha (yMove rfl) fun a ha=>?_;refine pY ha (yLenStr Tryz.runUnderlying9 rfl) fun a ha=>?_;refine pY ha (yLss rfl rfl) fun a ha=>?_;refine pZ ?_;refine hK6 _ _ ?_;refine cDec ha rfl (fun hc9=>?_) (fun hc9=>?_)
    · obtain ⟨b0,hb,hl⟩:=list_at s (i:=i) (by omega)
      have hne : s.data.toList.drop i ≠ []:=by rw [hl]; simp
      obtain ⟨g1,g2,g3,g4,g5,g6,g7⟩:=ok_step hne h2
      have g8:=cnt_step hne h2
      rw [List.length_drop] at g2
      have hb1 : b0.toNat ≠ 0:=fun e=>by
        have h4:=h2
        unfold okText at h4;rw [hl,u8_zero.1 e] at h4
        simp at h4
      refine wp_skip ?_;refine hK5 _ _ ?_;refine wp_seq_k fun K7 hK7=>?_;refine wp_block ?_;refine wp_seq_k fun K8 hK8=>?_;refine wp_region_lit ?_;refine pY ha (yAssign rfl) fun a ha=>?_;refine pZ ?_;refine hK8 _ _ ?_;refine wp_seq_k fun K9 hK9=>?_;refine wp_seq_k fun K10 hK10=>?_;refine wp_region_lit ?_;refine pY ha (yMove rfl) fun a ha=>?_;refine pY ha (yMove rfl) fun a ha=>?_;refine pY ha (yIndexSb Tryz.runUnderlying9 rfl rfl (by omega) hb) fun a ha=>?_;refine pY ha (yNeq rfl rfl) fun a ha=>?_;rw [decide_eq_false (show ¬ ((b0.toNat : Int) = 0) by omega)] at ha;refine pZ ?_;refine hK10 _ _ ?_;refine cTrue ha rfl ?_;refine wp_region_lit ?_;refine pY ha (yMove rfl) fun a ha=>?_;refine pY ha (yMove rfl) fun a ha=>?_;refine pC ha (nCall Tryz.call117 rfl) rfl (Point_c s i (by omega) (by omega) hs) ?_;rintro v w ⟨rfl,hs⟩ a ha;rw [g6] at ha;refine pY ha (yMove rfl) fun a ha=>?_;refine pY ha (yExtract rfl rfl) fun a ha=>?_;refine pY ha (yExtract rfl rfl) fun a ha=>?_;refine pY ha (yAssign rfl) fun a ha=>?_;refine pZ ?_;refine hK9 _ _ ?_;refine wp_region_lit ?_;refine pY ha (yMove rfl) fun a ha=>?_;refine pY ha (yMove rfl) fun a ha=>?_;refine pY ha (yMax2 rfl rfl) fun a ha=>?_;rw [if_neg (by omega)] at ha;refine pY ha (yAddN rfl rfl ⟨by omega,by omega⟩) fun a ha=>?_;refine pY ha (yAssign rfl) fun a ha=>?_;refine pZ ?_;refine hK7 _ _ ?_;refine wp_region_lit ?_;refine pY ha (yMove rfl) fun a ha=>?_;refine pY ha (yAddN rfl rfl ⟨by omega,by omega⟩) fun a ha=>?_;refine pY ha (yAssign rfl) fun a ha=>?_;refine pZ ?_;refine ⟨(i + (decodeL (s.data.toList.drop i)).2,n + 1),⟨by simp only; omega,by rw [← List.drop_drop]; exact g5,by simp only; rw [← List.drop_drop]; omega,has3 ha rfl rfl rfl,hs⟩,by simp only; omega⟩
    · refine wp_exit ?_;refine hK3 _ _ ?_;refine wp_seq_k fun K11 hK11=>?_;refine wp_region_lit ?_;refine pY ha (yMove rfl) fun a ha=>?_;refine pY ha (yAssign rfl) fun a ha=>?_;refine pZ ?_;refine hK11 _ _ ?_;refine wp_ret ?_;show bodyPost Tryz.prog Tryz.f116 _ .ret _ _;refine ret1 rfl ha rfl ?_;obtain rfl : i = s.size:=by omega
      rw [List.drop_eq_nil_of_le (by omega),cnt_nil] at h3;exact ⟨by rw [← h3]; rfl,hs⟩
theorem RName_c (s : ByteArray) (hsz : s.size≤1000000000) (hs : Sep W w cs) : Calls P 51 #[.string s] w (Rt fun v w'=>v = .bool (nameOk s)∧Sep W w' cs):=by
  have hlen : s.data.toList.length = s.size:=by simp
  refine enter Tryz.func51 Tryz.ntmps51 rfl rfl fun a (ha : Has a 56 [(0,_)])=>?_;refine wp_seq_k fun K1 hK1=>?_;refine wp_region_lit ?_;refine pY ha (yAssign rfl) fun a ha=>?_;refine pZ ?_;refine hK1 _ _ ?_;refine wp_seq_k fun K2 hK2=>?_;refine wp_seq_k fun K3 hK3=>?_;refine wp_region_lit ?_;refine pY ha (yMove rfl) fun a ha=>?_;refine pY ha (yLenStr Tryz.runUnderlying9 rfl) fun a ha=>?_;refine pY ha (yLss rfl rfl) fun a ha=>?_;refine pY ha (yMove rfl) fun a ha=>?_;refine gDec (t:=8) ha rfl (fun hg3 hp3=>?_) (fun hg3 hp3=>?_)
  · rw [hg3] at ha;refine gOn ha ?_;refine pY ha (yMove rfl) fun a ha=>?_;refine gOn ha ?_;refine pY ha (yLenStr Tryz.runUnderlying9 rfl) fun a ha=>?_;refine gOn ha ?_;refine pY ha (yGtr rfl rfl) fun a ha=>?_;refine pY ha (yPickF rfl rfl) fun a ha=>?_;refine pY ha (yMove rfl) fun a ha=>?_;refine gSplit (t:=13) ha rfl (fun hg8=>?_) (fun hg8=>?_)
    · rw [hg8] at ha
      have hp8:=of_decide_eq_false hg8
      refine gOn ha ?_;refine pY ha (yMove rfl) fun a ha=>?_;refine gOn ha ?_;refine pY ha (yStrEql rfl rfl) fun a ha=>?_;refine pY ha (yPickF rfl rfl) fun a ha=>?_;refine pY ha (yMove rfl) fun a ha=>?_;refine gSplit (t:=17) ha rfl (fun hg12=>?_) (fun hg12=>?_)
      · rw [hg12] at ha
        have hp12:=of_decide_eq_false hg12
        refine gOn ha ?_;refine pY ha (yMove rfl) fun a ha=>?_;refine gOn ha ?_;refine pY ha (yStrEql rfl rfl) fun a ha=>?_;refine pY ha (yPickF rfl rfl) fun a ha=>?_;refine pZ ?_;refine hK3 _ _ ?_;refine cDec ha rfl (fun hc20=>?_) (fun hc20=>?_)
        · refine wp_seq_k fun K4 hK4=>?_;refine wp_region_lit ?_;refine pY ha (yAssign rfl) fun a ha=>?_;refine pZ ?_;refine hK4 _ _ ?_;refine wp_ret ?_;show bodyPost Tryz.prog Tryz.f51 _ .ret _ _;refine ret1 rfl ha rfl ?_;refine ⟨congrArg Value.bool ?_,hs⟩
          (unfold nameOk; rw [decide_eq_true hc20]; simp; done)
        · have hn : nameOk s = s.data.toList.all letter:=by
            unfold nameOk;rw [decide_eq_true (show 1≤s.size by omega),decide_eq_true (show s.size≤20 by omega),decide_eq_false hp12,decide_eq_false hc20]; simp
          refine wp_skip ?_;refine hK2 _ _ ?_;refine wp_seq_k fun K5 hK5=>?_;refine wp_seq_k fun K6 hK6=>?_;refine wp_region_lit ?_;refine pY ha (yAssign rfl) fun a ha=>?_;refine pZ ?_;refine hK6 _ _ ?_;refine wp_block ?_;refine loopI (ι:=Nat) (fun i a w=>i≤s.size∧(s.data.toList.take i).all letter = true∧Has a 56 [(0,.string s),(3,.int .i64 i)]∧Sep W w cs) (fun i=>s.size - i) (0) ?_ ?_
          · exact ⟨Nat.zero_le _,rfl,has2 ha rfl rfl,hs⟩
          · rintro i a w ⟨h1,h2,ha,hs⟩;refine wp_seq_k fun K7 hK7=>?_;refine wp_seq_k fun K8 hK8=>?_;refine wp_region_lit ?_;refine pY ha (yMove rfl) fun a ha=>?_;refine pY ha (yMove rfl) fun a ha=>?_;refine pY ha (yLenStr Tryz.runUnderlying9 rfl) fun a ha=>?_;refine pY ha (yLss rfl rfl) fun a ha=>?_;refine pZ ?_;refine hK8 _ _ ?_;refine cDec ha rfl (fun hc24=>?_) (fun hc24=>?_)
            · obtain ⟨b,hb,hl⟩:=list_at s (i:=i) (by omega);refine wp_skip ?_;refine hK7 _ _ ?_;refine wp_seq_k fun K9 hK9=>?_;refine wp_block ?_;refine wp_seq_k fun K10 hK10=>?_;refine wp_region_lit ?_;refine pY ha (yMove rfl) fun a ha=>?_;refine pY ha (yMove rfl) fun a ha=>?_;refine pY ha (yIndexSb Tryz.runUnderlying9 rfl rfl (by omega) hb) fun a ha=>?_;refine pY ha (yAssign rfl) fun a ha=>?_;refine pZ ?_;refine hK10 _ _ ?_;refine wp_seq_k fun K11 hK11=>?_;refine cutC (fun a w=>Has a 56 [(55,.bool (decide (badL b))),(0,.string s),(3,.int .i64 i)]∧Sep W w cs) ?_ ?_
              · refine wp_region_lit ?_;refine pY ha (yMove rfl) fun a ha=>?_;refine pY ha (yLss rfl rfl) fun a ha=>?_;refine pY ha (yMove rfl) fun a ha=>?_;refine gDec (t:=32) ha rfl (fun hg2 hp2=>?_) (fun hg2 hp2=>?_)
                · rw [hg2] at ha;refine gOn ha ?_;refine pY ha (yMove rfl) fun a ha=>?_;refine gOn ha ?_;refine pY ha (yGtr rfl rfl) fun a ha=>?_;refine pY ha (yPickF rfl rfl) fun a ha=>?_;refine pY ha (yMove rfl) fun a ha=>?_;refine gSplit (t:=36) ha rfl (fun hg6=>?_) (fun hg6=>?_)
                  · rw [hg6] at ha
                    have hp6:=of_decide_eq_false hg6
                    refine gOff ha fun a ha=>?_;refine gOff ha fun a ha=>?_;refine gOff ha fun a ha=>?_;refine gOffU ha fun a ha=>?_;refine gOffU ha fun a ha=>?_;refine gOff ha fun a ha=>?_;refine pY ha (yPickF rfl rfl) fun a ha=>?_;refine pY ha (yMove rfl) fun a ha=>?_;refine gOff ha fun a ha=>?_;refine gOff ha fun a ha=>?_;refine pY ha (yPickF rfl rfl) fun a ha=>?_;refine pY ha (yMove rfl) fun a ha=>?_;refine gOff ha fun a ha=>?_;refine gOff ha fun a ha=>?_;refine pY ha (yPickF rfl rfl) fun a ha=>?_;refine pY ha (yMove rfl) fun a ha=>?_;refine gOff ha fun a ha=>?_;refine gOff ha fun a ha=>?_;refine pY ha (yPickF rfl rfl) fun a ha=>?_;refine pZ ⟨rfl,?_⟩;exact ⟨has3 ha (bF (by unfold badL; omega)) rfl rfl,hs⟩
                  · rw [hg6] at ha
                    have hp6:=of_decide_eq_true hg6
                    refine gOn ha ?_;refine pY ha (yMove rfl) fun a ha=>?_;refine gOn ha ?_;refine pY ha (yLss rfl rfl) fun a ha=>?_;refine gOn ha ?_;refine pY ha (yMove rfl) fun a ha=>?_;refine gDec (t:=39) ha rfl (fun hg9 hp9=>?_) (fun hg9 hp9=>?_)
                    · rw [hg9] at ha;refine gOn ha ?_;refine pY ha (yMove rfl) fun a ha=>?_;refine gOn ha ?_;refine pY ha (yGtr rfl rfl) fun a ha=>?_;refine gOn ha ?_;refine pY ha (yPickF rfl rfl) fun a ha=>?_;refine pY ha (yPickT rfl rfl) fun a ha=>?_;refine pY ha (yMove rfl) fun a ha=>?_;refine gSplit (t:=44) ha rfl (fun hg14=>?_) (fun hg14=>?_)
                      · rw [hg14] at ha
                        have hp14 : ¬ 57 < (b.toNat : Int):=of_decide_eq_false hg14
                        refine gOff ha fun a ha=>?_;refine gOff ha fun a ha=>?_;refine pY ha (yPickF rfl rfl) fun a ha=>?_;refine pY ha (yMove rfl) fun a ha=>?_;refine gOff ha fun a ha=>?_;refine gOff ha fun a ha=>?_;refine pY ha (yPickF rfl rfl) fun a ha=>?_;refine pY ha (yMove rfl) fun a ha=>?_;refine gOff ha fun a ha=>?_;refine gOff ha fun a ha=>?_;refine pY ha (yPickF rfl rfl) fun a ha=>?_;refine pZ ⟨rfl,?_⟩;exact ⟨has3 ha (bF (by unfold badL; omega)) rfl rfl,hs⟩
                      · rw [hg14] at ha
                        have hp14 : 57 < (b.toNat : Int):=of_decide_eq_true hg14
                        refine gOn ha ?_;refine pY ha (yMove rfl) fun a ha=>?_;refine gOn ha ?_;refine pY ha (yNeq rfl rfl) fun a ha=>?_;refine pY ha (yPickT rfl rfl) fun a ha=>?_;refine pY ha (yMove rfl) fun a ha=>?_;refine gSplit (t:=48) ha rfl (fun hg18=>?_) (fun hg18=>?_)
                        · rw [hg18] at ha
                          have hp18 : (b.toNat : Int) = 46:=by simpa using hg18
                          refine gOff ha fun a ha=>?_;refine gOff ha fun a ha=>?_;refine pY ha (yPickF rfl rfl) fun a ha=>?_;refine pY ha (yMove rfl) fun a ha=>?_;refine gOff ha fun a ha=>?_;refine gOff ha fun a ha=>?_;refine pY ha (yPickF rfl rfl) fun a ha=>?_;refine pZ ⟨rfl,?_⟩;exact ⟨has3 ha (bF (by unfold badL; omega)) rfl rfl,hs⟩
                        · rw [hg18] at ha
                          have hp18 : ¬ (b.toNat : Int) = 46:=by simpa using hg18
                          refine gOn ha ?_;refine pY ha (yMove rfl) fun a ha=>?_;refine gOn ha ?_;refine pY ha (yNeq rfl rfl) fun a ha=>?_;refine pY ha (yPickT rfl rfl) fun a ha=>?_;refine pY ha (yMove rfl) fun a ha=>?_;refine gSplit (t:=52) ha rfl (fun hg22=>?_) (fun hg22=>?_)
                          · rw [hg22] at ha
                            have hp22 : (b.toNat : Int) = 45:=by simpa using hg22
                            refine gOff ha fun a ha=>?_;refine gOff ha fun a ha=>?_;refine pY ha (yPickF rfl rfl) fun a ha=>?_;refine pZ ⟨rfl,?_⟩;exact ⟨has3 ha (bF (by unfold badL; omega)) rfl rfl,hs⟩
                          · rw [hg22] at ha
                            have hp22 : ¬ (b.toNat : Int) = 45:=by simpa using hg22
                            refine gOn ha ?_;refine pY ha (yMove rfl) fun a ha=>?_;refine gOn ha ?_;refine pY ha (yNeq rfl rfl) fun a ha=>?_;refine pY ha (yPickT rfl rfl) fun a ha=>?_;refine pZ ⟨rfl,?_⟩;exact ⟨has3 ha (bN (by unfold badL; rw [Bool.not_eq_true',decide_eq_false_iff_not]; omega)) rfl rfl,hs⟩
                    · rw [hg9] at ha;refine gOff ha fun a ha=>?_;refine gOff ha fun a ha=>?_;refine gOn ha ?_;refine pY ha (yPickT rfl rfl) fun a ha=>?_;refine pY ha (yPickT rfl rfl) fun a ha=>?_;refine pY ha (yMove rfl) fun a ha=>?_;refine gOn ha ?_;refine pY ha (yMove rfl) fun a ha=>?_;refine gOn ha ?_;refine pY ha (yNeq rfl rfl) fun a ha=>?_;refine pY ha (yPickT rfl rfl) fun a ha=>?_;refine pY ha (yMove rfl) fun a ha=>?_;refine gSplit (t:=48) ha rfl (fun hg18=>?_) (fun hg18=>?_)
                      · rw [hg18] at ha
                        have hp18 : (b.toNat : Int) = 46:=by simpa using hg18
                        refine gOff ha fun a ha=>?_;refine gOff ha fun a ha=>?_;refine pY ha (yPickF rfl rfl) fun a ha=>?_;refine pY ha (yMove rfl) fun a ha=>?_;refine gOff ha fun a ha=>?_;refine gOff ha fun a ha=>?_;refine pY ha (yPickF rfl rfl) fun a ha=>?_;refine pZ ⟨rfl,?_⟩;exact ⟨has3 ha (bF (by unfold badL; omega)) rfl rfl,hs⟩
                      · rw [hg18] at ha
                        have hp18 : ¬ (b.toNat : Int) = 46:=by simpa using hg18
                        refine gOn ha ?_;refine pY ha (yMove rfl) fun a ha=>?_;refine gOn ha ?_;refine pY ha (yNeq rfl rfl) fun a ha=>?_;refine pY ha (yPickT rfl rfl) fun a ha=>?_;refine pY ha (yMove rfl) fun a ha=>?_;refine gSplit (t:=52) ha rfl (fun hg22=>?_) (fun hg22=>?_)
                        · rw [hg22] at ha
                          have hp22 : (b.toNat : Int) = 45:=by simpa using hg22
                          refine gOff ha fun a ha=>?_;refine gOff ha fun a ha=>?_;refine pY ha (yPickF rfl rfl) fun a ha=>?_;refine pZ ⟨rfl,?_⟩;exact ⟨has3 ha (bF (by unfold badL; omega)) rfl rfl,hs⟩
                        · rw [hg22] at ha
                          have hp22 : ¬ (b.toNat : Int) = 45:=by simpa using hg22
                          refine gOn ha ?_;refine pY ha (yMove rfl) fun a ha=>?_;refine gOn ha ?_;refine pY ha (yNeq rfl rfl) fun a ha=>?_;refine pY ha (yPickT rfl rfl) fun a ha=>?_;refine pZ ⟨rfl,?_⟩;exact ⟨has3 ha (bN (by unfold badL; rw [Bool.not_eq_true',decide_eq_false_iff_not]; omega)) rfl rfl,hs⟩
                · rw [hg2] at ha;refine gOff ha fun a ha=>?_;refine gOff ha fun a ha=>?_;refine pY ha (yPickT rfl rfl) fun a ha=>?_;refine pY ha (yMove rfl) fun a ha=>?_;refine gOn ha ?_;refine pY ha (yMove rfl) fun a ha=>?_;refine gOn ha ?_;refine pY ha (yLss rfl rfl) fun a ha=>?_;refine gOn ha ?_;refine pY ha (yMove rfl) fun a ha=>?_;refine gDec (t:=39) ha rfl (fun hg9 hp9=>?_) (fun hg9 hp9=>?_)
                  · rw [hg9] at ha;refine gOn ha ?_;refine pY ha (yMove rfl) fun a ha=>?_;refine gOn ha ?_;refine pY ha (yGtr rfl rfl) fun a ha=>?_;refine gOn ha ?_;refine pY ha (yPickF rfl rfl) fun a ha=>?_;refine pY ha (yPickT rfl rfl) fun a ha=>?_;refine pY ha (yMove rfl) fun a ha=>?_;refine gSplit (t:=44) ha rfl (fun hg14=>?_) (fun hg14=>?_)
                    · rw [hg14] at ha
                      have hp14 : ¬ 57 < (b.toNat : Int):=of_decide_eq_false hg14
                      refine gOff ha fun a ha=>?_;refine gOff ha fun a ha=>?_;refine pY ha (yPickF rfl rfl) fun a ha=>?_;refine pY ha (yMove rfl) fun a ha=>?_;refine gOff ha fun a ha=>?_;refine gOff ha fun a ha=>?_;refine pY ha (yPickF rfl rfl) fun a ha=>?_;refine pY ha (yMove rfl) fun a ha=>?_;refine gOff ha fun a ha=>?_;refine gOff ha fun a ha=>?_;refine pY ha (yPickF rfl rfl) fun a ha=>?_;refine pZ ⟨rfl,?_⟩;exact ⟨has3 ha (bF (by unfold badL; omega)) rfl rfl,hs⟩
                    · rw [hg14] at ha
                      have hp14 : 57 < (b.toNat : Int):=of_decide_eq_true hg14
                      refine gOn ha ?_;refine pY ha (yMove rfl) fun a ha=>?_;refine gOn ha ?_;refine pY ha (yNeq rfl rfl) fun a ha=>?_;refine pY ha (yPickT rfl rfl) fun a ha=>?_;refine pY ha (yMove rfl) fun a ha=>?_;refine gSplit (t:=48) ha rfl (fun hg18=>?_) (fun hg18=>?_)
                      · rw [hg18] at ha
                        have hp18 : (b.toNat : Int) = 46:=by simpa using hg18
                        refine gOff ha fun a ha=>?_;refine gOff ha fun a ha=>?_;refine pY ha (yPickF rfl rfl) fun a ha=>?_;refine pY ha (yMove rfl) fun a ha=>?_;refine gOff ha fun a ha=>?_;refine gOff ha fun a ha=>?_;refine pY ha (yPickF rfl rfl) fun a ha=>?_;refine pZ ⟨rfl,?_⟩;exact ⟨has3 ha (bF (by unfold badL; omega)) rfl rfl,hs⟩
                      · rw [hg18] at ha
                        have hp18 : ¬ (b.toNat : Int) = 46:=by simpa using hg18
                        refine gOn ha ?_;refine pY ha (yMove rfl) fun a ha=>?_;refine gOn ha ?_;refine pY ha (yNeq rfl rfl) fun a ha=>?_;refine pY ha (yPickT rfl rfl) fun a ha=>?_;refine pY ha (yMove rfl) fun a ha=>?_;refine gSplit (t:=52) ha rfl (fun hg22=>?_) (fun hg22=>?_)
                        · rw [hg22] at ha
                          have hp22 : (b.toNat : Int) = 45:=by simpa using hg22
                          refine gOff ha fun a ha=>?_;refine gOff ha fun a ha=>?_;refine pY ha (yPickF rfl rfl) fun a ha=>?_;refine pZ ⟨rfl,?_⟩;exact ⟨has3 ha (bF (by unfold badL; omega)) rfl rfl,hs⟩
                        · rw [hg22] at ha
                          have hp22 : ¬ (b.toNat : Int) = 45:=by simpa using hg22
                          refine gOn ha ?_;refine pY ha (yMove rfl) fun a ha=>?_;refine gOn ha ?_;refine pY ha (yNeq rfl rfl) fun a ha=>?_;refine pY ha (yPickT rfl rfl) fun a ha=>?_;refine pZ ⟨rfl,?_⟩;exact ⟨has3 ha (bN (by unfold badL; rw [Bool.not_eq_true',decide_eq_false_iff_not]; omega)) rfl rfl,hs⟩
                  · rw [hg9] at ha;refine gOff ha fun a ha=>?_;refine gOff ha fun a ha=>?_;refine gOn ha ?_;refine pY ha (yPickT rfl rfl) fun a ha=>?_;refine pY ha (yPickT rfl rfl) fun a ha=>?_;refine pY ha (yMove rfl) fun a ha=>?_;refine gOn ha ?_;refine pY ha (yMove rfl) fun a ha=>?_;refine gOn ha ?_;refine pY ha (yNeq rfl rfl) fun a ha=>?_;refine pY ha (yPickT rfl rfl) fun a ha=>?_;refine pY ha (yMove rfl) fun a ha=>?_;refine gSplit (t:=48) ha rfl (fun hg18=>?_) (fun hg18=>?_)
                    · rw [hg18] at ha
                      have hp18 : (b.toNat : Int) = 46:=by simpa using hg18
                      refine gOff ha fun a ha=>?_;refine gOff ha fun a ha=>?_;refine pY ha (yPickF rfl rfl) fun a ha=>?_;refine pY ha (yMove rfl) fun a ha=>?_;refine gOff ha fun a ha=>?_;refine gOff ha fun a ha=>?_;refine pY ha (yPickF rfl rfl) fun a ha=>?_;refine pZ ⟨rfl,?_⟩;exact ⟨has3 ha (bF (by unfold badL; omega)) rfl rfl,hs⟩
                    · rw [hg18] at ha
                      have hp18 : ¬ (b.toNat : Int) = 46:=by simpa using hg18
                      refine gOn ha ?_;refine pY ha (yMove rfl) fun a ha=>?_;refine gOn ha ?_;refine pY ha (yNeq rfl rfl) fun a ha=>?_;refine pY ha (yPickT rfl rfl) fun a ha=>?_;refine pY ha (yMove rfl) fun a ha=>?_;refine gSplit (t:=52) ha rfl (fun hg22=>?_) (fun hg22=>?_)
                      · rw [hg22] at ha
                        have hp22 : (b.toNat : Int) = 45:=by simpa using hg22
                        refine gOff ha fun a ha=>?_;refine gOff ha fun a ha=>?_;refine pY ha (yPickF rfl rfl) fun a ha=>?_;refine pZ ⟨rfl,?_⟩;exact ⟨has3 ha (bF (by unfold badL; omega)) rfl rfl,hs⟩
                      · rw [hg22] at ha
                        have hp22 : ¬ (b.toNat : Int) = 45:=by simpa using hg22
                        refine gOn ha ?_;refine pY ha (yMove rfl) fun a ha=>?_;refine gOn ha ?_;refine pY ha (yNeq rfl rfl) fun a ha=>?_;refine pY ha (yPickT rfl rfl) fun a ha=>?_;refine pZ ⟨rfl,?_⟩;exact ⟨has3 ha (bN (by unfold badL; rw [Bool.not_eq_true',decide_eq_false_iff_not]; omega)) rfl rfl,hs⟩
              rintro a w ⟨ha,hs⟩;refine hK11 _ _ ?_;refine cDec ha rfl (fun hc55=>?_) (fun hc55=>?_)
              · refine wp_seq_k fun K12 hK12=>?_;refine wp_region_lit ?_;refine pY ha (yAssign rfl) fun a ha=>?_;refine pZ ?_;refine hK12 _ _ ?_;refine wp_ret ?_;show bodyPost Tryz.prog Tryz.f51 _ .ret _ _;refine ret1 rfl ha rfl ?_;refine ⟨congrArg Value.bool ?_,hs⟩
                (rw [hn,all_no hb (badL_letter.1 hc55)])
              · refine wp_skip ?_;refine hK9 _ _ ?_;refine wp_region_lit ?_;refine pY ha (yMove rfl) fun a ha=>?_;refine pY ha (yAddN rfl rfl ⟨by omega,by omega⟩) fun a ha=>?_;refine pY ha (yAssign rfl) fun a ha=>?_;refine pZ ?_;exact ⟨i + 1,⟨by omega,all_at h2 hb (by rw [badL_letter] at hc55; simpa using hc55),has2 ha rfl rfl,hs⟩,by omega⟩
            · refine wp_exit ?_;refine hK5 _ _ ?_;refine wp_seq_k fun K13 hK13=>?_;refine wp_region_lit ?_;refine pY ha (yAssign rfl) fun a ha=>?_;refine pZ ?_;refine hK13 _ _ ?_;refine wp_ret ?_;show bodyPost Tryz.prog Tryz.f51 _ .ret _ _;refine ret1 rfl ha rfl ?_;refine ⟨congrArg Value.bool ?_,hs⟩
              (rw [List.take_of_length_le (by omega)] at h2; rw [hn,h2])
      · rw [hg12] at ha
        have hp12:=of_decide_eq_true hg12
        refine gOff ha fun a ha=>?_;refine gOff ha fun a ha=>?_;refine pY ha (yPickT rfl rfl) fun a ha=>?_;refine pZ ?_;refine hK3 _ _ ?_;refine cTrue ha rfl ?_;refine wp_seq_k fun K14 hK14=>?_;refine wp_region_lit ?_;refine pY ha (yAssign rfl) fun a ha=>?_;refine pZ ?_;refine hK14 _ _ ?_;refine wp_ret ?_;show bodyPost Tryz.prog Tryz.f51 _ .ret _ _;refine ret1 rfl ha rfl ?_;refine ⟨congrArg Value.bool ?_,hs⟩
        (unfold nameOk; rw [decide_eq_true hp12]; simp; done)
    · rw [hg8] at ha
      have hp8:=of_decide_eq_true hg8
      refine gOff ha fun a ha=>?_;refine gOff ha fun a ha=>?_;refine pY ha (yPickT rfl rfl) fun a ha=>?_;refine pY ha (yMove rfl) fun a ha=>?_;refine gOff ha fun a ha=>?_;refine gOff ha fun a ha=>?_;refine pY ha (yPickT rfl rfl) fun a ha=>?_;refine pZ ?_;refine hK3 _ _ ?_;refine cTrue ha rfl ?_;refine wp_seq_k fun K15 hK15=>?_;refine wp_region_lit ?_;refine pY ha (yAssign rfl) fun a ha=>?_;refine pZ ?_;refine hK15 _ _ ?_;refine wp_ret ?_;show bodyPost Tryz.prog Tryz.f51 _ .ret _ _;refine ret1 rfl ha rfl ?_;refine ⟨congrArg Value.bool ?_,hs⟩
      (unfold nameOk; rw [decide_eq_false (show ¬ s.size≤20 by omega)]; simp; done)
  · rw [hg3] at ha;refine gOff ha fun a ha=>?_;refine gOff ha fun a ha=>?_;refine gOff ha fun a ha=>?_;refine pY ha (yPickT rfl rfl) fun a ha=>?_;refine pY ha (yMove rfl) fun a ha=>?_;refine gOff ha fun a ha=>?_;refine gOff ha fun a ha=>?_;refine pY ha (yPickT rfl rfl) fun a ha=>?_;refine pY ha (yMove rfl) fun a ha=>?_;refine gOff ha fun a ha=>?_;refine gOff ha fun a ha=>?_;refine pY ha (yPickT rfl rfl) fun a ha=>?_;refine pZ ?_;refine hK3 _ _ ?_;refine cTrue ha rfl ?_;refine wp_seq_k fun K16 hK16=>?_;refine wp_region_lit ?_;refine pY ha (yAssign rfl) fun a ha=>?_;refine pZ ?_;refine hK16 _ _ ?_;refine wp_ret ?_;show bodyPost Tryz.prog Tryz.f51 _ .ret _ _;refine ret1 rfl ha rfl ?_;refine ⟨congrArg Value.bool ?_,hs⟩
    (unfold nameOk; rw [decide_eq_false (show ¬ 1≤s.size by omega)]; simp; done)
theorem RHeld_c (n x : Int) (hn : 0≤n∧n≤1099511627776) (hs : Sep W w cs) : Calls P 115 #[.int .i64 n,.int .i64 x] w (Rt fun v w'=>v = .int .i64 (addC n (max x 0))∧Sep W w' cs):=by
  refine enter Tryz.func115 Tryz.ntmps115 rfl rfl fun a (ha : Has a 15 [(0,_),(1,_)])=>?_;refine wp_seq_k fun K1 hK1=>?_;refine wp_region_lit ?_;refine pY ha (yAssign rfl) fun a ha=>?_;refine pZ ?_;refine hK1 _ _ ?_;refine wp_seq_k fun K2 hK2=>?_;refine cutC (fun a w=>∃ q : Int,q = min (max x 0) 1099511627776∧Has a 15 [(0,.int .i64 n),(1,.int .i64 q)]∧Sep W w cs) ?_ ?_
  · refine wp_region_lit ?_;refine pY ha (yMove rfl) fun a ha=>?_;refine pY ha (yMax2 rfl rfl) fun a ha=>?_;refine pY ha (yMin2 rfl rfl) fun a ha=>?_;refine pY ha (yMove rfl) fun a ha=>?_;refine pY ha (yMax2 rfl rfl) fun a ha=>?_;refine pY ha (yMin2 rfl rfl) fun a ha=>?_;refine pY ha (yAssign rfl) fun a ha=>?_;refine pY ha (yAssign rfl) fun a ha=>?_;refine pZ ⟨rfl,?_⟩;refine ⟨min (max x 0) 1099511627776,rfl,has2 ha (iE ?_) (iE ?_),hs⟩
    · repeat' split
      all_goals omega
    · repeat' split
      all_goals omega
  rintro a w ⟨q,hq,ha,hs⟩;refine hK2 _ _ ?_;refine wp_seq_k fun K3 hK3=>?_;refine wp_region_lit ?_;refine pY ha (yMove rfl) fun a ha=>?_;refine pY ha (yMove rfl) fun a ha=>?_;refine pY ha (yAddN rfl rfl ⟨by omega,by omega⟩) fun a ha=>?_;refine pY ha (yMin2 rfl rfl) fun a ha=>?_;refine pY ha (yAssign rfl) fun a ha=>?_;refine pZ ?_;refine hK3 _ _ ?_;refine wp_ret ?_;show bodyPost Tryz.prog Tryz.f115 _ .ret _ _;refine ret1 rfl ha rfl ?_;refine ⟨congrArg (Value.int .i64) ?_,hs⟩;unfold addC
  repeat' split
  all_goals omega
theorem RBase_c {A : Option Addr} {n c : Nat} {xs : List Comp} (hs : Sep W w cs) (hk : Pick cs (.rd kComp (.slice A n c) xs) r) :
    Calls P 91 #[.slice A n c] w (Rt fun v w'=>v = .int .i64 (baseC xs 0)∧Sep W w' cs):=by
  obtain ⟨rfl,hl⟩:=hs.rd_shape hk;unfold maxLen at hl;have hs:=hs.cpR hk;refine enter Tryz.func91 Tryz.ntmps91 rfl rfl fun a (ha : Has a 33 [(0,_)])=>?_;refine wp_seq_k fun K1 hK1=>?_;refine wp_region_lit ?_;refine pY ha (yAssign rfl) fun a ha=>?_;refine pZ ?_;refine hK1 _ _ ?_;refine wp_seq_k fun K2 hK2=>?_;refine wp_region_lit ?_;refine pY ha (yAssign rfl) fun a ha=>?_;refine pZ ?_;refine hK2 _ _ ?_;refine wp_seq_k fun K3 hK3=>?_;refine wp_seq_k fun K4 hK4=>?_;refine wp_region_lit ?_;refine pY ha (yAssign rfl) fun a ha=>?_;refine pZ ?_;refine hK4 _ _ ?_;refine wp_block ?_;refine loopI (ι:=Nat × Int) (fun i a w=>i.1≤xs.length∧(0≤i.2∧i.2≤1099511627776)∧baseC (xs.drop i.1) i.2 = baseC xs 0∧Has a 33 [(0,.slice A xs.length c),(3,.int .i64 i.2),(4,.int .i64 i.1)]∧Sep W w (.rd kComp (.slice A xs.length c) xs::cs)) (fun i=>xs.length - i.1) ((0,0)) ?_ ?_
  · exact ⟨Nat.zero_le _,by decide,rfl,has3 ha rfl rfl rfl,hs⟩
  · rintro i a w ⟨h1,h2,h3,ha,hs⟩;obtain ⟨i,m⟩:=i; simp only at h1 h2 h3 ha hs;refine wp_seq_k fun K5 hK5=>?_;refine wp_seq_k fun K6 hK6=>?_;refine wp_region_lit ?_;refine pY ha (yMove rfl) fun a ha=>?_;refine pY ha (yMove rfl) fun a ha=>?_;refine pY ha (yLenS Tryz.runUnderlying46 rfl) fun a ha=>?_;refine pY ha (yLss rfl rfl) fun a ha=>?_;refine pZ ?_;refine hK6 _ _ ?_;refine cDec ha rfl (fun hc8=>?_) (fun hc8=>?_)
    · obtain ⟨x,hx⟩ : ∃ x,xs[i]? = some x:=⟨_,List.getElem?_eq_getElem (by omega)⟩;obtain ⟨b0,off,rfl,hs⟩:=hs.rd_comp .here hx;refine wp_skip ?_;refine hK5 _ _ ?_;refine wp_seq_k fun K7 hK7=>?_;refine wp_block ?_;refine wp_seq_k fun K8 hK8=>?_;refine wp_region_lit ?_;refine pY ha (yMove rfl) fun a ha=>?_;refine pY ha (yMove rfl) fun a ha=>?_;refine pY ha (yIndexA Tryz.runUnderlying46 Tryz.sizeOf45 rfl rfl (by omega) (by omega)) fun a ha=>?_;refine pY ha (yFieldA Tryz.runUnderlying45 rfl Tryz.sizeOf3 rfl rfl) fun a ha=>?_;refine pY ha (yLoadR Tryz.isAgg3 hs rfl pk0 rfl) fun a ha=>?_;refine pY ha (yEql rfl rfl) fun a ha=>?_;refine pY ha (yMove rfl) fun a ha=>?_;refine gDec (t:=17) ha rfl (fun hg6 hp6=>?_) (fun hg6 hp6=>?_)
      · rw [hg6] at ha;refine gOn ha ?_;refine pY ha (yMove rfl) fun a ha=>?_;refine gOn ha ?_;refine pY ha (yMove rfl) fun a ha=>?_;refine gOn ha ?_;refine pY ha (yIndexA Tryz.runUnderlying46 Tryz.sizeOf45 rfl rfl (by omega) (by omega)) fun a ha=>?_;refine gOn ha ?_;refine pY ha (yFieldA Tryz.runUnderlying45 rfl Tryz.sizeOf3 rfl rfl) fun a ha=>?_;refine gOn ha ?_;refine pY ha (yLoadR Tryz.isAgg3 hs rfl pk0 rfl) fun a ha=>?_;refine gOn ha ?_;refine pY ha (yEql rfl rfl) fun a ha=>?_;refine pY ha (yPickF rfl rfl) fun a ha=>?_;refine pZ ?_;refine hK8 _ _ ?_;refine cDec ha rfl (fun hc24=>?_) (fun hc24=>?_)
        · refine wp_region_lit ?_;refine pY ha (yMove rfl) fun a ha=>?_;refine pY ha (yMove rfl) fun a ha=>?_;refine pY ha (yMove rfl) fun a ha=>?_;refine pY ha (yIndexA Tryz.runUnderlying46 Tryz.sizeOf45 rfl rfl (by omega) (by omega)) fun a ha=>?_;refine pY ha (yFieldA Tryz.runUnderlying45 rfl Tryz.sizeOf3 rfl rfl) fun a ha=>?_;refine pY ha (yLoadR Tryz.isAgg3 hs rfl pk0 rfl) fun a ha=>?_;refine pC ha (nCall Tryz.call115 rfl) rfl (RHeld_c m x.n h2 hs) ?_;rintro v w ⟨rfl,hs⟩ a ha;refine pY ha (yAssign rfl) fun a ha=>?_;refine pZ ?_;refine hK7 _ _ ?_;refine wp_region_lit ?_;refine pY ha (yMove rfl) fun a ha=>?_;refine pY ha (yAddN rfl rfl ⟨by omega,by omega⟩) fun a ha=>?_;refine pY ha (yAssign rfl) fun a ha=>?_;refine pZ ?_;rw [baseC_at hx] at h3
          have hao:=addC_ok h2 (x:=max x.n 0) (by omega)
          (rw [if_pos (show x.kind = 1∨x.kind = 3 from .inr hc24)] at h3; exact ⟨(i + 1,addC m (max x.n 0)),⟨by simp only; omega,hao,h3,has3 ha rfl rfl rfl,hs.drop⟩,by simp only; omega⟩)
        · refine wp_skip ?_;refine hK7 _ _ ?_;refine wp_region_lit ?_;refine pY ha (yMove rfl) fun a ha=>?_;refine pY ha (yAddN rfl rfl ⟨by omega,by omega⟩) fun a ha=>?_;refine pY ha (yAssign rfl) fun a ha=>?_;refine pZ ?_;rw [baseC_at hx] at h3
          have hao:=addC_ok h2 (x:=max x.n 0) (by omega)
          (rw [if_neg (by omega)] at h3; exact ⟨(i + 1,m),⟨by simp only; omega,h2,h3,has3 ha rfl rfl rfl,hs.drop⟩,by simp only; omega⟩)
      · rw [hg6] at ha;refine gOff ha fun a ha=>?_;refine gOff ha fun a ha=>?_;refine gOff ha fun a ha=>?_;refine gOff ha fun a ha=>?_;refine gOff ha fun a ha=>?_;refine gOff ha fun a ha=>?_;refine pY ha (yPickT rfl rfl) fun a ha=>?_;refine pZ ?_;refine hK8 _ _ ?_;refine cTrue ha rfl ?_;refine wp_region_lit ?_;refine pY ha (yMove rfl) fun a ha=>?_;refine pY ha (yMove rfl) fun a ha=>?_;refine pY ha (yMove rfl) fun a ha=>?_;refine pY ha (yIndexA Tryz.runUnderlying46 Tryz.sizeOf45 rfl rfl (by omega) (by omega)) fun a ha=>?_;refine pY ha (yFieldA Tryz.runUnderlying45 rfl Tryz.sizeOf3 rfl rfl) fun a ha=>?_;refine pY ha (yLoadR Tryz.isAgg3 hs rfl pk0 rfl) fun a ha=>?_;refine pC ha (nCall Tryz.call115 rfl) rfl (RHeld_c m x.n h2 hs) ?_;rintro v w ⟨rfl,hs⟩ a ha;refine pY ha (yAssign rfl) fun a ha=>?_;refine pZ ?_;refine hK7 _ _ ?_;refine wp_region_lit ?_;refine pY ha (yMove rfl) fun a ha=>?_;refine pY ha (yAddN rfl rfl ⟨by omega,by omega⟩) fun a ha=>?_;refine pY ha (yAssign rfl) fun a ha=>?_;refine pZ ?_;rw [baseC_at hx] at h3
        have hao:=addC_ok h2 (x:=max x.n 0) (by omega)
        (rw [if_pos (show x.kind = 1∨x.kind = 3 from .inl hp6)] at h3; exact ⟨(i + 1,addC m (max x.n 0)),⟨by simp only; omega,hao,h3,has3 ha rfl rfl rfl,hs.drop⟩,by simp only; omega⟩)
    · refine wp_exit ?_;refine hK3 _ _ ?_;refine wp_seq_k fun K9 hK9=>?_;refine wp_region_lit ?_;refine pY ha (yMove rfl) fun a ha=>?_;refine pY ha (yAssign rfl) fun a ha=>?_;refine pZ ?_;refine hK9 _ _ ?_;refine wp_ret ?_;show bodyPost Tryz.prog Tryz.f91 _ .ret _ _;refine ret1 rfl ha rfl ?_;rw [List.drop_eq_nil_of_le (by omega)] at h3; exact ⟨congrArg (Value.int .i64) h3,hs.drop⟩
theorem ROut_c {A : Option Addr} {n c : Nat} {xs : List Comp} (hsz : ∀ x ∈ xs,x.text.size≤1000000000∧(x.kind = 2→okText x.text.data.toList = true)) (hs : Sep W w cs) (hk : Pick cs (.rd kComp (.slice A n c) xs) r) :
    Calls P 92 #[.slice A n c] w (Rt fun v w'=>v = .int .i64 (outC xs 0)∧Sep W w' cs):=by
  obtain ⟨rfl,hl⟩:=hs.rd_shape hk;unfold maxLen at hl;have hs:=hs.cpR hk;refine enter Tryz.func92 Tryz.ntmps92 rfl rfl fun a (ha : Has a 36 [(0,_)])=>?_;refine wp_seq_k fun K1 hK1=>?_;refine wp_region_lit ?_;refine pY ha (yAssign rfl) fun a ha=>?_;refine pZ ?_;refine hK1 _ _ ?_;refine wp_seq_k fun K2 hK2=>?_;refine wp_region_lit ?_;refine pY ha (yAssign rfl) fun a ha=>?_;refine pZ ?_;refine hK2 _ _ ?_;refine wp_seq_k fun K3 hK3=>?_;refine wp_seq_k fun K4 hK4=>?_;refine wp_region_lit ?_;refine pY ha (yAssign rfl) fun a ha=>?_;refine pZ ?_;refine hK4 _ _ ?_;refine wp_block ?_;refine loopI (ι:=Nat × Int) (fun i a w=>i.1≤xs.length∧(0≤i.2∧i.2≤1099511627776)∧outC (xs.drop i.1) i.2 = outC xs 0∧Has a 36 [(0,.slice A xs.length c),(3,.int .i64 i.2),(4,.int .i64 i.1)]∧Sep W w (.rd kComp (.slice A xs.length c) xs::cs)) (fun i=>xs.length - i.1) ((0,0)) ?_ ?_
  · exact ⟨Nat.zero_le _,by decide,rfl,has3 ha rfl rfl rfl,hs⟩
  · rintro i a w ⟨h1,h2,h3,ha,hs⟩;obtain ⟨i,m⟩:=i; simp only at h1 h2 h3 ha hs;refine wp_seq_k fun K5 hK5=>?_;refine wp_seq_k fun K6 hK6=>?_;refine wp_region_lit ?_;refine pY ha (yMove rfl) fun a ha=>?_;refine pY ha (yMove rfl) fun a ha=>?_;refine pY ha (yLenS Tryz.runUnderlying46 rfl) fun a ha=>?_;refine pY ha (yLss rfl rfl) fun a ha=>?_;refine pZ ?_;refine hK6 _ _ ?_;refine cDec ha rfl (fun hc8=>?_) (fun hc8=>?_)
    · obtain ⟨x,hx⟩ : ∃ x,xs[i]? = some x:=⟨_,List.getElem?_eq_getElem (by omega)⟩;obtain ⟨hsx2,hsx3⟩:=hsz x (List.mem_of_getElem? hx)
      have hcl:=cnt_le x.text.data.toList
      have hlen : x.text.data.toList.length = x.text.size:=by simp
      obtain ⟨b0,off,rfl,hs⟩:=hs.rd_comp .here hx;refine wp_skip ?_;refine hK5 _ _ ?_;refine wp_seq_k fun K7 hK7=>?_;refine wp_block ?_;refine wp_seq_k fun K8 hK8=>?_;refine wp_region_lit ?_;refine pY ha (yMove rfl) fun a ha=>?_;refine pY ha (yMove rfl) fun a ha=>?_;refine pY ha (yIndexA Tryz.runUnderlying46 Tryz.sizeOf45 rfl rfl (by omega) (by omega)) fun a ha=>?_;refine pY ha (yFieldA Tryz.runUnderlying45 rfl Tryz.sizeOf3 rfl rfl) fun a ha=>?_;refine pY ha (yLoadR Tryz.isAgg3 hs rfl pk0 rfl) fun a ha=>?_;refine pZ ?_;refine hK8 _ _ ?_;refine wp_block ?_;refine wp_seq_k fun K9 hK9=>?_;refine wp_region_lit ?_;refine pY ha (yEql rfl rfl) fun a ha=>?_;refine pY ha (yAssign rfl) fun a ha=>?_;refine pZ ?_;refine hK9 _ _ ?_;refine cDec ha rfl (fun hc16=>?_) (fun hc16=>?_)
      · refine wp_region_lit ?_;refine pY ha (yMove rfl) fun a ha=>?_;refine pY ha (yMove rfl) fun a ha=>?_;refine pY ha (yMove rfl) fun a ha=>?_;refine pY ha (yIndexA Tryz.runUnderlying46 Tryz.sizeOf45 rfl rfl (by omega) (by omega)) fun a ha=>?_;refine pY ha (yFieldA Tryz.runUnderlying45 rfl Tryz.sizeOf3 rfl rfl) fun a ha=>?_;refine pY ha (yLoadR Tryz.isAgg3 hs rfl pk0 rfl) fun a ha=>?_;refine pC ha (nCall Tryz.call115 rfl) rfl (RHeld_c m x.n h2 hs) ?_;rintro v w ⟨rfl,hs⟩ a ha;refine pY ha (yAssign rfl) fun a ha=>?_;refine pZ ?_;refine hK7 _ _ ?_;refine wp_region_lit ?_;refine pY ha (yMove rfl) fun a ha=>?_;refine pY ha (yAddN rfl rfl ⟨by omega,by omega⟩) fun a ha=>?_;refine pY ha (yAssign rfl) fun a ha=>?_;refine pZ ?_;rw [outC_at hx] at h3
        have hao:=addC_ok h2 (x:=max x.n 0) (by omega)
        have hao2:=addC_ok h2 (x:=(cnt x.text.data.toList : Int)) (by omega)
        (rw [if_pos hc16] at h3; exact ⟨(i + 1,addC m (max x.n 0)),⟨by simp only; omega,hao,h3,has3 ha rfl rfl rfl,hs.drop⟩,by simp only; omega⟩)
      · refine wp_seq_k fun K10 hK10=>?_;refine wp_region_lit ?_;refine pY ha (yEql rfl rfl) fun a ha=>?_;refine pY ha (yAssign rfl) fun a ha=>?_;refine pZ ?_;refine hK10 _ _ ?_;refine cDec ha rfl (fun hc25=>?_) (fun hc25=>?_)
        · refine wp_region_lit ?_;refine pY ha (yMove rfl) fun a ha=>?_;refine pY ha (yMove rfl) fun a ha=>?_;refine pY ha (yMove rfl) fun a ha=>?_;refine pY ha (yIndexA Tryz.runUnderlying46 Tryz.sizeOf45 rfl rfl (by omega) (by omega)) fun a ha=>?_;refine pY ha (yFieldA Tryz.runUnderlying45 rfl Tryz.sizeOf9 rfl rfl) fun a ha=>?_;refine pY ha (yLoadR Tryz.isAgg9 hs rfl pk0 rfl) fun a ha=>?_;refine pC ha (nCall Tryz.call116 rfl) rfl (RLoose_c x.text (hsx3 hc25) (by omega) hs) ?_;rintro v w ⟨rfl,hs⟩ a ha;refine pC ha (nCall Tryz.call115 rfl) rfl (RHeld_c m (cnt x.text.data.toList) h2 hs) ?_;rintro v w ⟨rfl,hs⟩ a ha;refine pY ha (yAssign rfl) fun a ha=>?_;refine pZ ?_;refine hK7 _ _ ?_;refine wp_region_lit ?_;refine pY ha (yMove rfl) fun a ha=>?_;refine pY ha (yAddN rfl rfl ⟨by omega,by omega⟩) fun a ha=>?_;refine pY ha (yAssign rfl) fun a ha=>?_;refine pZ ?_;rw [outC_at hx] at h3
          have hao:=addC_ok h2 (x:=max x.n 0) (by omega)
          have hao2:=addC_ok h2 (x:=(cnt x.text.data.toList : Int)) (by omega)
          (rw [if_neg hc16,if_pos hc25] at h3; exact ⟨(i + 1,addC m (cnt x.text.data.toList)),⟨by simp only; omega,hao2,h3,has3 ha rfl (iE (by rw [Int.max_eq_left (by omega)])) rfl,hs.drop⟩,by simp only; omega⟩)
        · refine wp_skip ?_;refine hK7 _ _ ?_;refine wp_region_lit ?_;refine pY ha (yMove rfl) fun a ha=>?_;refine pY ha (yAddN rfl rfl ⟨by omega,by omega⟩) fun a ha=>?_;refine pY ha (yAssign rfl) fun a ha=>?_;refine pZ ?_;rw [outC_at hx] at h3
          have hao:=addC_ok h2 (x:=max x.n 0) (by omega)
          have hao2:=addC_ok h2 (x:=(cnt x.text.data.toList : Int)) (by omega)
          (rw [if_neg hc16,if_neg hc25] at h3; exact ⟨(i + 1,m),⟨by simp only; omega,h2,h3,has3 ha rfl rfl rfl,hs.drop⟩,by simp only; omega⟩)
    · refine wp_exit ?_;refine hK3 _ _ ?_;refine wp_seq_k fun K11 hK11=>?_;refine wp_region_lit ?_;refine pY ha (yMove rfl) fun a ha=>?_;refine pY ha (yAssign rfl) fun a ha=>?_;refine pZ ?_;refine hK11 _ _ ?_;refine wp_ret ?_;show bodyPost Tryz.prog Tryz.f92 _ .ret _ _;refine ret1 rfl ha rfl ?_;rw [List.drop_eq_nil_of_le (by omega)] at h3; exact ⟨congrArg (Value.int .i64) h3,hs.drop⟩
end
end Go.Proofs.YtnlhbkaieoogfaaGreatDoor

set_option linter.unusedVariables false
set_option linter.unusedSimpArgs false
namespace Go.Proofs.YtnlhbkaieoogfaaGreatDoor
open Go.RowKit Go.Lib
theorem no_at {α : Type} {f : α→Bool} {xs : List α} {i : Nat} {x : α} (h : (xs.take i).any f = false) (hx : xs[i]? = some x) (hf : f x = false) : (xs.take (i + 1)).any f = false:=by
  rw [List.take_add_one,hx]; simp only [Option.toList,List.any_append,h,List.any_cons,hf,List.any_nil,Bool.or_self]
theorem find_at {xs : List Nod} {f : Nod→Bool} {i : Nat} {x : Nod} (h : (xs.take i).any f = false) (hx : xs[i]? = some x) (hf : f x = true) : xs.find? f = some x:=by
  obtain ⟨hi,rfl⟩:=List.getElem?_eq_some_iff.1 hx
  have h1 : xs = xs.take i++xs[i]::xs.drop (i + 1):=by
    rw [← List.drop_eq_getElem_cons hi,List.take_append_drop]
  refine (congrArg (List.find? f) h1).trans ?_;rw [List.find?_append]
  have h2 : (xs.take i).find? f = none:=by
    rw [List.find?_eq_none];rw [List.any_eq_false] at h;exact h
  rw [h2,List.find?_cons]
  simp [hf]
theorem find_no {xs : List Nod} {f : Nod→Bool} {i : Nat} (h : (xs.take i).any f = false) (hi : xs.length≤i) : xs.find? f = none:=by
  rw [List.take_of_length_le hi,List.any_eq_false] at h;rw [List.find?_eq_none];exact h
section
variable {W w : World} {cs r r' : List Ch}
theorem Find_c {A : Option Addr} {n c : Nat} {xs : List Nod} (id : Int) (hs : Sep W w cs) (hk : Pick cs (.rd kNod (.slice A n c) xs) r) :
    Calls P 56 #[.slice A n c,.int .i64 id] w (Rt fun v w'=>∃ k : Int,v = .int .i64 k∧((∃ (j : Nat) (y : Nod),k = j∧xs[j]? = some y∧findN xs id = y∧inR xs id = true)∨(k = -1∧inR xs id = false))∧Sep W w' cs):=by
  obtain ⟨rfl,hl⟩:=hs.rd_shape hk;unfold maxLen at hl;have hs:=hs.cpR hk;refine enter Tryz.func56 Tryz.ntmps56 rfl rfl fun a (ha : Has a 20 [(0,_),(1,_)])=>?_;refine wp_seq_k fun K1 hK1=>?_;refine wp_region_lit ?_;refine pY ha (yAssign rfl) fun a ha=>?_;refine pZ ?_;refine hK1 _ _ ?_;refine wp_seq_k fun K2 hK2=>?_;refine wp_seq_k fun K3 hK3=>?_;refine wp_region_lit ?_;refine pY ha (yAssign rfl) fun a ha=>?_;refine pZ ?_;refine hK3 _ _ ?_;refine wp_block ?_;refine loopI (ι:=Nat) (fun i a w=>i≤xs.length∧(xs.take i).any (fun x=>decide (x.id = id)) = false∧Has a 20 [(0,.slice A xs.length c),(1,.int .i64 id),(5,.int .i64 i)]∧Sep W w (.rd kNod (.slice A xs.length c) xs::cs)) (fun i=>xs.length - i) (0) ?_ ?_
  · exact ⟨Nat.zero_le _,rfl,has3 ha rfl rfl rfl,hs⟩
  · rintro i a w ⟨h1,h2,ha,hs⟩;refine wp_seq_k fun K4 hK4=>?_;refine wp_seq_k fun K5 hK5=>?_;refine wp_region_lit ?_;refine pY ha (yMove rfl) fun a ha=>?_;refine pY ha (yMove rfl) fun a ha=>?_;refine pY ha (yLenS Tryz.runUnderlying24 rfl) fun a ha=>?_;refine pY ha (yLss rfl rfl) fun a ha=>?_;refine pZ ?_;refine hK5 _ _ ?_;refine cDec ha rfl (fun hc9=>?_) (fun hc9=>?_)
    · obtain ⟨x,hx⟩ : ∃ x,xs[i]? = some x:=⟨_,List.getElem?_eq_getElem (by omega)⟩;obtain ⟨b0,off,rfl,hs⟩:=hs.rd_nod .here hx;refine wp_skip ?_;refine hK4 _ _ ?_;refine wp_seq_k fun K6 hK6=>?_;refine wp_block ?_;refine wp_seq_k fun K7 hK7=>?_;refine wp_region_lit ?_;refine pY ha (yMove rfl) fun a ha=>?_;refine pY ha (yMove rfl) fun a ha=>?_;refine pY ha (yIndexA Tryz.runUnderlying24 Tryz.sizeOf50 rfl rfl (by omega) (by omega)) fun a ha=>?_;refine pY ha (yFieldA Tryz.runUnderlying50 rfl Tryz.sizeOf3 rfl rfl) fun a ha=>?_;refine pY ha (yLoadR Tryz.isAgg3 hs rfl pk0 rfl) fun a ha=>?_;refine pY ha (yMove rfl) fun a ha=>?_;refine pY ha (yEql rfl rfl) fun a ha=>?_;refine pZ ?_;refine hK7 _ _ ?_;refine cDec ha rfl (fun hc18=>?_) (fun hc18=>?_)
      · refine wp_seq_k fun K8 hK8=>?_;refine wp_region_lit ?_;refine pY ha (yMove rfl) fun a ha=>?_;refine pY ha (yAssign rfl) fun a ha=>?_;refine pZ ?_;refine hK8 _ _ ?_;refine wp_ret ?_;show bodyPost Tryz.prog Tryz.f56 _ .ret _ _;refine ret1 rfl ha rfl ?_;exact ⟨i,rfl,.inl ⟨i,x,rfl,hx,by unfold findN; rw [find_at h2 hx (decide_eq_true hc18)]; rfl,inR_iff.2 ⟨x,List.mem_of_getElem? hx,hc18⟩⟩,hs.drop.drop⟩
      · refine wp_skip ?_;refine hK6 _ _ ?_;refine wp_region_lit ?_;refine pY ha (yMove rfl) fun a ha=>?_;refine pY ha (yAddN rfl rfl ⟨by omega,by omega⟩) fun a ha=>?_;refine pY ha (yAssign rfl) fun a ha=>?_;refine pZ ?_;exact ⟨i + 1,⟨by omega,no_at h2 hx (decide_eq_false hc18),has3 ha rfl rfl rfl,hs.drop⟩,by omega⟩
    · refine wp_exit ?_;refine hK2 _ _ ?_;refine wp_seq_k fun K9 hK9=>?_;refine wp_region_lit ?_;refine pY ha (yAssign rfl) fun a ha=>?_;refine pZ ?_;refine hK9 _ _ ?_;refine wp_ret ?_;show bodyPost Tryz.prog Tryz.f56 _ .ret _ _;refine ret1 rfl ha rfl ?_;rw [List.take_of_length_le (by omega)] at h2; exact ⟨-1,rfl,.inr ⟨rfl,h2⟩,hs.drop⟩
theorem Child_c {A : Option Addr} {n c : Nat} {xs : List Nod} (p : Int) (s : ByteArray) (hs : Sep W w cs) (hk : Pick cs (.rd kNod (.slice A n c) xs) r) :
    Calls P 54 #[.slice A n c,.int .i64 p,.string s] w (Rt fun v w'=>v = .int .i64 (childR xs p s)∧Sep W w' cs):=by
  obtain ⟨rfl,hl⟩:=hs.rd_shape hk;unfold maxLen at hl;have hs:=hs.cpR hk;refine enter Tryz.func54 Tryz.ntmps54 rfl rfl fun a (ha : Has a 35 [(0,_),(1,_),(2,_)])=>?_;refine wp_seq_k fun K1 hK1=>?_;refine wp_region_lit ?_;refine pY ha (yAssign rfl) fun a ha=>?_;refine pZ ?_;refine hK1 _ _ ?_;refine wp_seq_k fun K2 hK2=>?_;refine wp_seq_k fun K3 hK3=>?_;refine wp_region_lit ?_;refine pY ha (yAssign rfl) fun a ha=>?_;refine pZ ?_;refine hK3 _ _ ?_;refine wp_block ?_;refine loopI (ι:=Nat) (fun i a w=>i≤xs.length∧(xs.take i).any (fun x=>decide (x.parent = p) && decide (x.name = s)) = false∧Has a 35 [(0,.slice A xs.length c),(1,.int .i64 p),(2,.string s),(7,.int .i64 i)]∧Sep W w (.rd kNod (.slice A xs.length c) xs::cs)) (fun i=>xs.length - i) (0) ?_ ?_
  · exact ⟨Nat.zero_le _,rfl,has4 ha rfl rfl rfl rfl,hs⟩
  · rintro i a w ⟨h1,h2,ha,hs⟩;refine wp_seq_k fun K4 hK4=>?_;refine wp_seq_k fun K5 hK5=>?_;refine wp_region_lit ?_;refine pY ha (yMove rfl) fun a ha=>?_;refine pY ha (yMove rfl) fun a ha=>?_;refine pY ha (yLenS Tryz.runUnderlying24 rfl) fun a ha=>?_;refine pY ha (yLss rfl rfl) fun a ha=>?_;refine pZ ?_;refine hK5 _ _ ?_;refine cDec ha rfl (fun hc11=>?_) (fun hc11=>?_)
    · obtain ⟨x,hx⟩ : ∃ x,xs[i]? = some x:=⟨_,List.getElem?_eq_getElem (by omega)⟩;obtain ⟨b0,off,rfl,hs⟩:=hs.rd_nod .here hx;refine wp_skip ?_;refine hK4 _ _ ?_;refine wp_seq_k fun K6 hK6=>?_;refine wp_block ?_;refine wp_seq_k fun K7 hK7=>?_;refine wp_region_lit ?_;refine pY ha (yMove rfl) fun a ha=>?_;refine pY ha (yMove rfl) fun a ha=>?_;refine pY ha (yIndexA Tryz.runUnderlying24 Tryz.sizeOf50 rfl rfl (by omega) (by omega)) fun a ha=>?_;refine pY ha (yFieldA Tryz.runUnderlying50 rfl Tryz.sizeOf3 rfl rfl) fun a ha=>?_;refine pY ha (yLoadR Tryz.isAgg3 hs rfl pk0 rfl) fun a ha=>?_;refine pY ha (yMove rfl) fun a ha=>?_;refine pY ha (yEql rfl rfl) fun a ha=>?_;refine pY ha (yMove rfl) fun a ha=>?_;refine gDec (t:=21) ha rfl (fun hg7 hp7=>?_) (fun hg7 hp7=>?_)
      · rw [hg7] at ha;refine gOff ha fun a ha=>?_;refine gOff ha fun a ha=>?_;refine gOff ha fun a ha=>?_;refine gOff ha fun a ha=>?_;refine gOff ha fun a ha=>?_;refine gOff ha fun a ha=>?_;refine gOff ha fun a ha=>?_;refine pY ha (yPickF rfl rfl) fun a ha=>?_;refine pZ ?_;refine hK7 _ _ ?_;refine cFalse ha rfl ?_;refine wp_skip ?_;refine hK6 _ _ ?_;refine wp_region_lit ?_;refine pY ha (yMove rfl) fun a ha=>?_;refine pY ha (yAddN rfl rfl ⟨by omega,by omega⟩) fun a ha=>?_;refine pY ha (yAssign rfl) fun a ha=>?_;refine pZ ?_;refine ⟨i + 1,⟨by omega,no_at h2 hx ?_,has4 ha rfl rfl rfl rfl,hs.drop⟩,by omega⟩
        (rw [decide_eq_false hp7]; rfl)
      · rw [hg7] at ha;refine gOn ha ?_;refine pY ha (yMove rfl) fun a ha=>?_;refine gOn ha ?_;refine pY ha (yMove rfl) fun a ha=>?_;refine gOn ha ?_;refine pY ha (yIndexA Tryz.runUnderlying24 Tryz.sizeOf50 rfl rfl (by omega) (by omega)) fun a ha=>?_;refine gOn ha ?_;refine pY ha (yFieldA Tryz.runUnderlying50 rfl Tryz.sizeOf9 rfl rfl) fun a ha=>?_;refine gOn ha ?_;refine pY ha (yLoadR Tryz.isAgg9 hs rfl pk0 rfl) fun a ha=>?_;refine gOn ha ?_;refine pY ha (yMove rfl) fun a ha=>?_;refine gOn ha ?_;refine pY ha (yStrEql rfl rfl) fun a ha=>?_;refine pY ha (yPickT rfl rfl) fun a ha=>?_;refine pZ ?_;refine hK7 _ _ ?_;refine cDec ha rfl (fun hc29=>?_) (fun hc29=>?_)
        · refine wp_seq_k fun K8 hK8=>?_;refine wp_region_lit ?_;refine pY ha (yMove rfl) fun a ha=>?_;refine pY ha (yMove rfl) fun a ha=>?_;refine pY ha (yIndexA Tryz.runUnderlying24 Tryz.sizeOf50 rfl rfl (by omega) (by omega)) fun a ha=>?_;refine pY ha (yFieldA Tryz.runUnderlying50 rfl Tryz.sizeOf3 rfl rfl) fun a ha=>?_;refine pY ha (yLoadR Tryz.isAgg3 hs rfl pk0 rfl) fun a ha=>?_;refine pY ha (yAssign rfl) fun a ha=>?_;refine pZ ?_;refine hK8 _ _ ?_;refine wp_ret ?_;show bodyPost Tryz.prog Tryz.f54 _ .ret _ _;refine ret1 rfl ha rfl ?_;refine ⟨?_,hs.drop.drop⟩; unfold childR; rw [find_at h2 hx (by rw [decide_eq_true hp7,decide_eq_true hc29]; rfl)]; rfl
        · refine wp_skip ?_;refine hK6 _ _ ?_;refine wp_region_lit ?_;refine pY ha (yMove rfl) fun a ha=>?_;refine pY ha (yAddN rfl rfl ⟨by omega,by omega⟩) fun a ha=>?_;refine pY ha (yAssign rfl) fun a ha=>?_;refine pZ ?_;refine ⟨i + 1,⟨by omega,no_at h2 hx ?_,has4 ha rfl rfl rfl rfl,hs.drop⟩,by omega⟩
          (rw [decide_eq_false hc29,Bool.and_false])
    · refine wp_exit ?_;refine hK2 _ _ ?_;refine wp_seq_k fun K9 hK9=>?_;refine wp_region_lit ?_;refine pY ha (yAssign rfl) fun a ha=>?_;refine pZ ?_;refine hK9 _ _ ?_;refine wp_ret ?_;show bodyPost Tryz.prog Tryz.f54 _ .ret _ _;refine ret1 rfl ha rfl ?_;refine ⟨?_,hs.drop⟩; unfold childR; rw [find_no h2 (by omega)]; rfl
theorem within_at (l : List Nod) (k : Nat) (id top : Int) : withinR l (k + 1) id top = if id = top then true else if inR l id = false then false else withinR l k (findN l id).parent top:=rfl
theorem Within_c {A : Option Addr} {n c : Nat} {xs : List Nod} (id0 top : Int) (hn : xs.length≤1000000000) (hs : Sep W w cs) (hk : Pick cs (.rd kNod (.slice A n c) xs) r) :
    Calls P 57 #[.slice A n c,.int .i64 id0,.int .i64 top] w (Rt fun v w'=>v = .bool (withinR xs (xs.length + 1) id0 top)∧Sep W w' cs):=by
  obtain ⟨rfl,hl⟩:=hs.rd_shape hk;unfold maxLen at hl;have hs:=hs.cpR hk;refine enter Tryz.func57 Tryz.ntmps57 rfl rfl fun a (ha : Has a 28 [(0,_),(1,_),(2,_)])=>?_;refine wp_seq_k fun K1 hK1=>?_;refine wp_region_lit ?_;refine pY ha (yAssign rfl) fun a ha=>?_;refine pZ ?_;refine hK1 _ _ ?_;refine wp_seq_k fun K2 hK2=>?_;refine wp_seq_k fun K3 hK3=>?_;refine wp_region_lit ?_;refine pY ha (yAssign rfl) fun a ha=>?_;refine pZ ?_;refine hK3 _ _ ?_;refine wp_block ?_;refine loopI (ι:=Nat × Int) (fun i a w=>i.1≤xs.length + 1∧withinR xs (xs.length + 1 - i.1) i.2 top = withinR xs (xs.length + 1) id0 top∧Has a 28 [(0,.slice A xs.length c),(1,.int .i64 i.2),(2,.int .i64 top),(7,.int .i64 i.1)]∧Sep W w (.rd kNod (.slice A xs.length c) xs::cs)) (fun i=>xs.length + 1 - i.1) ((0,id0)) ?_ ?_
  · exact ⟨Nat.zero_le _,rfl,has4 ha rfl rfl rfl rfl,hs⟩
  · rintro i a w ⟨h1,h2,ha,hs⟩;obtain ⟨i,id⟩:=i; simp only at h1 h2 ha hs;refine wp_seq_k fun K4 hK4=>?_;refine wp_seq_k fun K5 hK5=>?_;refine wp_region_lit ?_;refine pY ha (yMove rfl) fun a ha=>?_;refine pY ha (yMove rfl) fun a ha=>?_;refine pY ha (yLenS Tryz.runUnderlying24 rfl) fun a ha=>?_;refine pY ha (yLeq rfl rfl) fun a ha=>?_;refine pZ ?_;refine hK5 _ _ ?_;refine cDec ha rfl (fun hc12=>?_) (fun hc12=>?_)
    · rw [show xs.length + 1 - i = (xs.length - i) + 1 by omega,within_at] at h2;refine wp_skip ?_;refine hK4 _ _ ?_;refine wp_seq_k fun K6 hK6=>?_;refine wp_block ?_;refine wp_seq_k fun K7 hK7=>?_;refine wp_seq_k fun K8 hK8=>?_;refine wp_region_lit ?_;refine pY ha (yMove rfl) fun a ha=>?_;refine pY ha (yMove rfl) fun a ha=>?_;refine pY ha (yEql rfl rfl) fun a ha=>?_;refine pZ ?_;refine hK8 _ _ ?_;refine cDec ha rfl (fun hc17=>?_) (fun hc17=>?_)
      · refine wp_seq_k fun K9 hK9=>?_;refine wp_region_lit ?_;refine pY ha (yAssign rfl) fun a ha=>?_;refine pZ ?_;refine hK9 _ _ ?_;refine wp_ret ?_;show bodyPost Tryz.prog Tryz.f57 _ .ret _ _;refine ret1 rfl ha rfl ?_;rw [if_pos hc17] at h2; exact ⟨by rw [← h2],hs.drop⟩
      · rw [if_neg hc17] at h2;refine wp_skip ?_;refine hK7 _ _ ?_;refine wp_seq_k fun K10 hK10=>?_;refine wp_region_lit ?_;refine pY ha (yMove rfl) fun a ha=>?_;refine pY ha (yMove rfl) fun a ha=>?_;refine pC ha (nCall Tryz.call56 rfl) rfl (Find_c (xs:=xs) id hs .here) ?_;rintro v w ⟨k,rfl,hk2,hs⟩ a ha;refine pY ha (yAssign rfl) fun a ha=>?_;refine pZ ?_;refine hK10 _ _ ?_;refine wp_seq_k fun K11 hK11=>?_;refine wp_seq_k fun K12 hK12=>?_;refine wp_region_lit ?_;refine pY ha (yMove rfl) fun a ha=>?_;refine pY ha (yLss rfl rfl) fun a ha=>?_;refine pZ ?_;refine hK12 _ _ ?_;refine cDec ha rfl (fun hc22=>?_) (fun hc22=>?_)
        · refine wp_seq_k fun K13 hK13=>?_;refine wp_region_lit ?_;refine pY ha (yAssign rfl) fun a ha=>?_;refine pZ ?_;refine hK13 _ _ ?_;refine wp_ret ?_;show bodyPost Tryz.prog Tryz.f57 _ .ret _ _;refine ret1 rfl ha rfl ?_;rw [if_pos (hk2.resolve_left (fun ⟨j,y,e,_⟩=>by omega)).2] at h2; exact ⟨by rw [← h2],hs.drop⟩
        · obtain ⟨j,y,rfl,hy,hf,hin⟩:=hk2.resolve_right (fun h=>by omega)
          have hj:=(List.getElem?_eq_some_iff.1 hy).1
          obtain ⟨b0,off,rfl,hs⟩:=hs.rd_nod .here hy;refine wp_skip ?_;refine hK11 _ _ ?_;refine wp_region_lit ?_;refine pY ha (yMove rfl) fun a ha=>?_;refine pY ha (yMove rfl) fun a ha=>?_;refine pY ha (yIndexA Tryz.runUnderlying24 Tryz.sizeOf50 rfl rfl (by omega) (by omega)) fun a ha=>?_;refine pY ha (yFieldA Tryz.runUnderlying50 rfl Tryz.sizeOf3 rfl rfl) fun a ha=>?_;refine pY ha (yLoadR Tryz.isAgg3 hs rfl pk0 rfl) fun a ha=>?_;refine pY ha (yAssign rfl) fun a ha=>?_;refine pZ ?_;refine hK6 _ _ ?_;refine wp_region_lit ?_;refine pY ha (yMove rfl) fun a ha=>?_;refine pY ha (yAddN rfl rfl ⟨by omega,by omega⟩) fun a ha=>?_;refine pY ha (yAssign rfl) fun a ha=>?_;refine pZ ?_;rw [if_neg (by rw [hin]; decide),hf] at h2;exact ⟨(i + 1,y.parent),⟨by simp only; omega,by simp only; rw [show xs.length + 1 - (i + 1) = xs.length - i by omega]; exact h2,has4 ha rfl rfl rfl rfl,hs.drop⟩,by simp only; omega⟩
    · refine wp_exit ?_;refine hK2 _ _ ?_;refine wp_seq_k fun K14 hK14=>?_;refine wp_region_lit ?_;refine pY ha (yAssign rfl) fun a ha=>?_;refine pZ ?_;refine hK14 _ _ ?_;refine wp_ret ?_;show bodyPost Tryz.prog Tryz.f57 _ .ret _ _;refine ret1 rfl ha rfl ?_;rw [show xs.length + 1 - i = 0 by omega] at h2; exact ⟨by rw [← h2]; rfl,hs.drop⟩
theorem nsum_at {xs : List Nod} {i : Nat} {x : Nod} (hx : xs[i]? = some x) : sumN (xs.take (i + 1)) = sumN (xs.take i) + cnt x.text.data.toList:=by
  rw [List.take_add_one,hx,sumN_append]; simp [sumN]
theorem nsum_le {B : Nat} : ∀ (l : List Nod),(∀ x ∈ l,x.text.size≤B)→sumN l≤l.length * B
  | [],_=>by simp [sumN]
  | x::r,h=>by
    have h1:=nsum_le r (fun y hy=>h y (by simp [hy]))
    have h2:=h x (by simp)
    have h3:=cnt_le x.text.data.toList
    have h4 : x.text.data.toList.length = x.text.size:=by simp
    simp only [sumN,List.length_cons,Nat.add_mul,Nat.one_mul]
    omega
/-- The first part of what is asked of a node. -/
def bad8 (l : List Nod) (i : Nat) (x y : Nod) : Prop:=x.id < 1∨x.id > 1099511627776∨(i > 0∧y.id ≥ x.id)∨nameOk x.name = false∨childR l x.parent x.name ≠ x.id∨(x.dir = true∧x.text ≠ emp)∨x.text.size > 8000∨okText x.text.data.toList = false
instance (l : List Nod) (i : Nat) (x y : Nod) : Decidable (bad8 l i x y):=by unfold bad8; infer_instance
theorem goodR_at {l : List Nod} {i : Nat} {x y : Nod} (hx : l[i]? = some x) (hgy : l.getD (i - 1) noN = y) : goodR l i = true ↔ ¬ bad8 l i x y∧cnt x.text.data.toList≤2000∧sumN (l.take (i + 1))≤10000∧(x.parent = 0∨(inR l x.parent = true∧(findN l x.parent).dir = true∧withinR l (l.length + 1) x.parent x.id = false)):=by
  have hgx : l.getD i noN = x:=by rw [List.getD_eq_getElem?_getD,hx]; rfl
  unfold goodR bad8;rw [hgx,hgy];simp only [Bool.and_eq_true,Bool.or_eq_true,decide_eq_true_eq,Bool.not_eq_true',not_or,not_and,Bool.not_eq_false,Classical.not_not,ge_iff_le,Int.not_le,gt_iff_lt,Int.not_lt,Nat.not_lt]
  constructor
  · rintro ⟨⟨⟨⟨⟨⟨⟨⟨⟨p1,p2⟩,p3⟩,p4⟩,p5⟩,p6⟩,p7⟩,p8⟩,p9⟩,p10⟩
    have h4:=cnt_four _ x.text.data.toList (Nat.le_refl _) p7
    have h5 : x.text.data.toList.length = x.text.size:=by simp
    refine ⟨⟨by omega,by omega,fun h=>p3.resolve_left (by omega),p4,p5,fun h=>p6.resolve_left (by rw [h]; decide),by omega,p7⟩,p8,p9,?_⟩
    rcases p10 with e | ⟨⟨e1,e2⟩,e3⟩
    · exact .inl e
    · exact .inr ⟨e1,e2,e3⟩
  · rintro ⟨⟨p1,p2,p3,p4,p5,p6,p7,p8⟩,p9,p10,p11⟩;refine ⟨⟨⟨⟨⟨⟨⟨⟨⟨by omega,by omega⟩,?_⟩,p4⟩,p5⟩,?_⟩,p8⟩,p9⟩,p10⟩,?_⟩
    · rcases Nat.eq_zero_or_pos i with e | e
      · exact .inl e
      · exact .inr (p3 e)
    · cases hd : x.dir with
      | false=>exact .inl rfl
      | true=>exact .inr (p6 hd)
    · rcases p11 with e | ⟨e1,e2,e3⟩
      · exact .inl e
      · exact .inr ⟨⟨e1,e2⟩,e3⟩
theorem Sound_c {A : Option Addr} {n c : Nat} {xs : List Nod} (hm : ∀ x ∈ xs,mN x) (hs : Sep W w cs) (hk : Pick cs (.rd kNod (.slice A n c) xs) r) :
    Calls P 18 #[.slice A n c] w (Rt fun v w'=>v = .bool (soundR xs)∧Sep W w' cs):=by
  obtain ⟨rfl,hl⟩:=hs.rd_shape hk;unfold maxLen at hl;have hs:=hs.cpR hk;refine enter Tryz.func18 Tryz.ntmps18 rfl rfl fun a (ha : Has a 119 [(0,_)])=>?_;refine wp_seq_k fun K1 hK1=>?_;refine wp_region_lit ?_;refine pY ha (yAssign rfl) fun a ha=>?_;refine pZ ?_;refine hK1 _ _ ?_;refine wp_seq_k fun K2 hK2=>?_;refine wp_seq_k fun K3 hK3=>?_;refine wp_region_lit ?_;refine pY ha (yMove rfl) fun a ha=>?_;refine pY ha (yLenS Tryz.runUnderlying24 rfl) fun a ha=>?_;refine pY ha (yGtr rfl rfl) fun a ha=>?_;refine pZ ?_;refine hK3 _ _ ?_;refine cDec ha rfl (fun hc10=>?_) (fun hc10=>?_)
  · refine wp_seq_k fun K4 hK4=>?_;refine wp_region_lit ?_;refine pY ha (yAssign rfl) fun a ha=>?_;refine pZ ?_;refine hK4 _ _ ?_;refine wp_ret ?_;show bodyPost Tryz.prog Tryz.f18 _ .ret _ _;refine ret1 rfl ha rfl ?_
    (refine ⟨congrArg Value.bool ?_,hs.drop⟩; unfold soundR; rw [decide_eq_false (show ¬ xs.length≤100 by omega)]; rfl)
  · have hn100 : xs.length≤100:=by omega
    have hsE : soundR xs = allN (goodR xs) xs.length:=by unfold soundR; rw [decide_eq_true hn100]; rfl
    refine wp_skip ?_;refine hK2 _ _ ?_;refine wp_seq_k fun K5 hK5=>?_;refine wp_region_lit ?_;refine pY ha (yAssign rfl) fun a ha=>?_;refine pZ ?_;refine hK5 _ _ ?_;refine wp_seq_k fun K6 hK6=>?_;refine wp_seq_k fun K7 hK7=>?_;refine wp_region_lit ?_;refine pY ha (yAssign rfl) fun a ha=>?_;refine pZ ?_;refine hK7 _ _ ?_;refine wp_block ?_;refine loopI (ι:=Nat) (fun i a w=>i≤xs.length∧allN (goodR xs) i = true∧Has a 119 [(0,.slice A xs.length c),(3,.int .i64 (sumN (xs.take i))),(4,.int .i64 i)]∧Sep W w (.rd kNod (.slice A xs.length c) xs::cs)) (fun i=>xs.length - i) (0) ?_ ?_
    · exact ⟨Nat.zero_le _,rfl,has3 ha rfl rfl rfl,hs⟩
    · rintro i a w ⟨h1,h2,ha,hs⟩;refine wp_seq_k fun K8 hK8=>?_;refine wp_seq_k fun K9 hK9=>?_;refine wp_region_lit ?_;refine pY ha (yMove rfl) fun a ha=>?_;refine pY ha (yMove rfl) fun a ha=>?_;refine pY ha (yLenS Tryz.runUnderlying24 rfl) fun a ha=>?_;refine pY ha (yLss rfl rfl) fun a ha=>?_;refine pZ ?_;refine hK9 _ _ ?_;refine cDec ha rfl (fun hc14=>?_) (fun hc14=>?_)
      · obtain ⟨x,hx⟩ : ∃ x,xs[i]? = some x:=⟨_,List.getElem?_eq_getElem (by omega)⟩;obtain ⟨y,hy⟩ : ∃ y,xs[i - 1]? = some y:=⟨_,List.getElem?_eq_getElem (by omega)⟩
        have hgy : xs.getD (i - 1) noN = y:=by rw [List.getD_eq_getElem?_getD,hy]; rfl
        obtain ⟨hm1,hm2⟩:=hm x (List.mem_of_getElem? hx)
        have hsa:=nsum_at hx
        have hsb:=nsum_le (B:=1000000000) (xs.take i) (fun y hy=>(hm y (List.mem_of_mem_take hy)).2)
        rw [List.length_take,Nat.min_eq_left (by omega)] at hsb
        have hcl:=cnt_le x.text.data.toList
        have hlen : x.text.data.toList.length = x.text.size:=by simp
        obtain ⟨b0,off,rfl,hs⟩:=hs.rd_nod .here hx;refine wp_skip ?_;refine hK8 _ _ ?_;refine wp_seq_k fun K10 hK10=>?_;refine wp_block ?_;refine wp_seq_k fun K11 hK11=>?_;refine wp_region_lit ?_;refine pY ha (yMove rfl) fun a ha=>?_;refine pY ha (yMove rfl) fun a ha=>?_;refine pY ha (yIndexA Tryz.runUnderlying24 Tryz.sizeOf50 rfl rfl (by omega) (by omega)) fun a ha=>?_;refine pY ha (yLoadRA Tryz.isAgg50 Tryz.sizeOf50 hs rfl pk0 rfl) fun a ha=>?_;refine pAlloc (zs:=[.int .i64 0,.int .i64 0,.string ⟨#[]⟩,.bool false,.string ⟨#[]⟩]) ha Tryz.zeroValue50 rfl hs rfl fun bx w hs a ha=>?_;refine pStoreA ha Tryz.sizeOf50 hs rfl rfl pk0 rfl rfl rfl fun w hs=>?_;refine pZ ?_;refine hK11 _ _ ?_;refine wp_seq_k fun K12 hK12=>?_;refine wp_seq_k fun K13 hK13=>?_;obtain ⟨b1,off1,e1,hs⟩:=hs.rd_nod (.there (.there .here)) hy;simp only [Option.some.injEq,Addr.mk.injEq,and_true] at e1;obtain ⟨rfl,rfl⟩:=e1;rw [show i - 1 = ((i : Int) - 1).toNat by omega] at hs;refine cutC (fun a w=>Has a 119 [(81,.bool (decide (bad8 xs i x y))),(0,.slice (some ⟨b0,off,none⟩) xs.length c),(3,.int .i64 (sumN (xs.take i))),(4,.int .i64 i),(5,.pointer (some ⟨bx,0,none⟩))]∧Sep W w (.blk bx 50 [.int .i64 x.id,.int .i64 x.parent,.string x.name,.bool x.dir,.string x.text]::.rd kNod (.slice (some ⟨b0,off,none⟩) xs.length c) xs::cs)) ?_ ?_
        · refine dStart (fun w=>∃ rs,Sep W w (.at b0 (off + ((i : Int) - 1).toNat * 5) [.int .i64 y.id,.int .i64 y.parent,.string y.name,.bool y.dir,.string y.text]::.blk bx 50 [.int .i64 x.id,.int .i64 x.parent,.string x.name,.bool x.dir,.string x.text]::rs)) [58] 2305843009213693951 288230376151711743 (by kernel_rfl) (by kernel_rfl) rfl (⟨_,hs.drew.pick pk0⟩) ?_
          have hs:=Sep.drew hs
          generalize World.drew _ = w at hs ⊢;refine dP 0 1 rfl ha (fun _=>yFieldA Tryz.runUnderlying50 rfl Tryz.sizeOf3 rfl rfl) fun a ha=>?_;refine dT 1 3 rfl ha (fun _ ⟨rs,hs⟩=>yLoadB Tryz.isAgg3 hs rfl pk1 rfl) (⟨_,hs.pick pk0⟩) fun a ha=>?_;refine dP 2 7 rfl ha (fun _=>yLss rfl rfl) fun a ha=>?_;refine dP 3 15 rfl ha (fun _=>yMove rfl) fun a ha=>?_;refine gDec (t:=24) ha rfl (fun hg3 hp3=>?_) (fun hg3 hp3=>?_)
          · rw [hg3] at ha;refine dP 4 31 rfl ha (fun _=>yFieldA Tryz.runUnderlying50 rfl Tryz.sizeOf3 rfl rfl) fun a ha=>?_;refine dT 5 63 rfl ha (fun _ ⟨rs,hs⟩=>yLoadB Tryz.isAgg3 hs rfl pk1 rfl) (⟨_,hs.pick pk0⟩) fun a ha=>?_;refine dP 6 127 rfl ha (fun _=>yGtr rfl rfl) fun a ha=>?_;refine dP 7 255 rfl ha (fun _=>yPickF rfl rfl) fun a ha=>?_;refine dP 8 511 rfl ha (fun _=>yMove rfl) fun a ha=>?_;refine gSplit (t:=29) ha rfl (fun hg8=>?_) (fun hg8=>?_)
            · rw [hg8] at ha
              have hp8:=of_decide_eq_false hg8
              refine dP 9 1023 rfl ha (fun _=>yMove rfl) fun a ha=>?_;refine dP 10 2047 rfl ha (fun _=>yGtr rfl rfl) fun a ha=>?_;refine dP 11 4095 rfl ha (fun _=>yMove rfl) fun a ha=>?_;refine gDec (t:=32) ha rfl (fun hg11 hp11=>?_) (fun hg11 hp11=>?_)
              · rw [hg11] at ha;refine dOff 12 8191 rfl ha fun a ha=>?_;refine dOff 13 16383 rfl ha fun a ha=>?_;refine dOff 14 32767 rfl ha fun a ha=>?_;refine dOff 15 65535 rfl ha fun a ha=>?_;refine dOff 16 131071 rfl ha fun a ha=>?_;refine dOff 17 262143 rfl ha fun a ha=>?_;refine dOff 18 524287 rfl ha fun a ha=>?_;refine dOff 19 1048575 rfl ha fun a ha=>?_;refine dOff 20 2097151 rfl ha fun a ha=>?_;refine dP 21 4194303 rfl ha (fun _=>yPickF rfl rfl) fun a ha=>?_;refine dP 22 8388607 rfl ha (fun _=>yPickF rfl rfl) fun a ha=>?_;refine dP 23 16777215 rfl ha (fun _=>yMove rfl) fun a ha=>?_;refine dP 24 33554431 rfl ha (fun _=>yFieldA Tryz.runUnderlying50 rfl Tryz.sizeOf9 rfl rfl) fun a ha=>?_;refine dT 25 67108863 rfl ha (fun _ ⟨rs,hs⟩=>yLoadB Tryz.isAgg9 hs rfl pk1 rfl) (⟨_,hs.pick pk0⟩) fun a ha=>?_;refine dC 26 134217727 rfl (by kernel_rfl) rfl ha (won1 rfl rfl rfl) (nCall Tryz.call51 rfl) rfl (RName_c x.name hm1 hs) ?_;rintro v w ⟨rfl,hs⟩;refine ⟨⟨_,hs.pick pk0⟩,fun a ha=>?_⟩;refine dP 27 268435455 rfl ha (fun _=>yNot rfl) fun a ha=>?_;refine dP 28 536870911 rfl ha (fun _=>yPickF rfl rfl) fun a ha=>?_;refine dP 29 1073741823 rfl ha (fun _=>yMove rfl) fun a ha=>?_;refine gSplit (t:=50) ha rfl (fun hg29=>?_) (fun hg29=>?_)
                · rw [hg29] at ha
                  have hp29 : nameOk x.name = true:=by simpa using hg29
                  refine dP 30 2147483647 rfl ha (fun _=>yMove rfl) fun a ha=>?_;refine dP 31 4294967295 rfl ha (fun _=>yFieldA Tryz.runUnderlying50 rfl Tryz.sizeOf3 rfl rfl) fun a ha=>?_;refine dT 32 8589934591 rfl ha (fun _ ⟨rs,hs⟩=>yLoadB Tryz.isAgg3 hs rfl pk1 rfl) (⟨_,hs.pick pk0⟩) fun a ha=>?_;refine dP 33 17179869183 rfl ha (fun _=>yFieldA Tryz.runUnderlying50 rfl Tryz.sizeOf9 rfl rfl) fun a ha=>?_;refine dT 34 34359738367 rfl ha (fun _ ⟨rs,hs⟩=>yLoadB Tryz.isAgg9 hs rfl pk1 rfl) (⟨_,hs.pick pk0⟩) fun a ha=>?_;refine dP 36 103079215103 rfl ha (fun _=>yFieldA Tryz.runUnderlying50 rfl Tryz.sizeOf3 rfl rfl) fun a ha=>?_;refine dT 37 240518168575 rfl ha (fun _ ⟨rs,hs⟩=>yLoadB Tryz.isAgg3 hs rfl pk1 rfl) (⟨_,hs.pick pk0⟩) fun a ha=>?_;refine dC 35 274877906943 rfl (by kernel_rfl) rfl ha (won1 rfl rfl rfl) (nCall Tryz.call54 rfl) rfl (Child_c (xs:=xs) x.parent x.name hs pk3) ?_;rintro v w ⟨rfl,hs⟩;refine ⟨⟨_,hs.pick pk0⟩,fun a ha=>?_⟩;refine dP 38 549755813887 rfl ha (fun _=>yNeq rfl rfl) fun a ha=>?_;refine dP 39 1099511627775 rfl ha (fun _=>yPickF rfl rfl) fun a ha=>?_;refine dP 40 2199023255551 rfl ha (fun _=>yMove rfl) fun a ha=>?_;refine gSplit (t:=61) ha rfl (fun hg40=>?_) (fun hg40=>?_)
                  · rw [hg40] at ha
                    have hp40 : childR xs x.parent x.name = x.id:=by simpa using hg40
                    refine dP 41 4398046511103 rfl ha (fun _=>yFieldA Tryz.runUnderlying50 rfl Tryz.sizeOf4 rfl rfl) fun a ha=>?_;refine dT 42 8796093022207 rfl ha (fun _ ⟨rs,hs⟩=>yLoadB Tryz.isAgg4 hs rfl pk1 rfl) (⟨_,hs.pick pk0⟩) fun a ha=>?_;refine dP 43 17592186044415 rfl ha (fun _=>yMove rfl) fun a ha=>?_;refine gSplit (t:=64) ha rfl (fun hg43=>?_) (fun hg43=>?_)
                    · rw [hg43] at ha
                      have hp43 : x.dir = false:=hg43
                      refine dOff 44 35184372088831 rfl ha fun a ha=>?_;refine dOff 45 70368744177663 rfl ha fun a ha=>?_;refine dOff 46 140737488355327 rfl ha fun a ha=>?_;refine dP 47 281474976710655 rfl ha (fun _=>yPickF rfl rfl) fun a ha=>?_;refine dP 48 562949953421311 rfl ha (fun _=>yPickF rfl rfl) fun a ha=>?_;refine dP 49 1125899906842623 rfl ha (fun _=>yMove rfl) fun a ha=>?_;refine dP 50 2251799813685247 rfl ha (fun _=>yFieldA Tryz.runUnderlying50 rfl Tryz.sizeOf9 rfl rfl) fun a ha=>?_;refine dT 51 4503599627370495 rfl ha (fun _ ⟨rs,hs⟩=>yLoadB Tryz.isAgg9 hs rfl pk1 rfl) (⟨_,hs.pick pk0⟩) fun a ha=>?_;refine dP 52 9007199254740991 rfl ha (fun _=>yLenStr Tryz.runUnderlying9 rfl) fun a ha=>?_;refine dP 53 18014398509481983 rfl ha (fun _=>yGtr rfl rfl) fun a ha=>?_;refine dP 54 36028797018963967 rfl ha (fun _=>yPickF rfl rfl) fun a ha=>?_;refine dP 55 72057594037927935 rfl ha (fun _=>yMove rfl) fun a ha=>?_;refine gSplit (t:=76) ha rfl (fun hg55=>?_) (fun hg55=>?_)
                      · rw [hg55] at ha
                        have hp55:=of_decide_eq_false hg55
                        refine dP 56 144115188075855871 rfl ha (fun _=>yFieldA Tryz.runUnderlying50 rfl Tryz.sizeOf9 rfl rfl) fun a ha=>?_;refine dT 57 288230376151711743 rfl ha (fun _ ⟨rs,hs⟩=>yLoadB Tryz.isAgg9 hs rfl pk1 rfl) (⟨_,hs.pick pk0⟩) fun a ha=>?_;refine dCl 58 576460752303423487 rfl (by kernel_rfl) rfl ha (won1 rfl rfl rfl) (nCall Tryz.call55 rfl) rfl (RValid_c x.text (by omega) hs) ?_;rintro v w ⟨rfl,hs⟩ a ha;refine dP 59 1152921504606846975 rfl ha (fun _=>yNot rfl) fun a ha=>?_;refine dP 60 2305843009213693951 rfl ha (fun _=>yPickF rfl rfl) fun a ha=>?_;refine dZ (by kernel_rfl) ?_;refine ⟨rfl,?_⟩;refine ⟨has5 ha ?_ rfl rfl rfl rfl,hs.drop.drop2⟩
                        (refine bN ⟨fun h=>.inr (.inr (.inr (.inr (.inr (.inr (.inr (by simpa using h))))))),fun h=>?_⟩
                         rcases h with h | h | h | h | h | h | h | h
                         · exact absurd h hp3
                         · exact absurd h hp8
                         · exact absurd h.1 (by omega)
                         · rw [hp29] at h; cases h
                         · exact absurd hp40 h
                         · (rw [hp43] at h; cases h.1)
                         · exfalso; omega
                         · rw [h]; rfl)
                      · rw [hg55] at ha
                        have hp55:=of_decide_eq_true hg55
                        refine dOff 56 144115188075855871 rfl ha fun a ha=>?_;refine dOff 57 288230376151711743 rfl ha fun a ha=>?_;refine dOff 58 576460752303423487 rfl ha fun a ha=>?_;refine dOff 59 1152921504606846975 rfl ha fun a ha=>?_;refine dP 60 2305843009213693951 rfl ha (fun _=>yPickT rfl rfl) fun a ha=>?_;refine dZ (by kernel_rfl) ?_;refine ⟨rfl,?_⟩;refine ⟨has5 ha ?_ rfl rfl rfl rfl,hs.drop.drop2⟩;exact bY (.inr (.inr (.inr (.inr (.inr (.inr (.inl (by omega))))))))
                    · rw [hg43] at ha
                      have hp43 : x.dir = true:=hg43
                      refine dP 44 35184372088831 rfl ha (fun _=>yFieldA Tryz.runUnderlying50 rfl Tryz.sizeOf9 rfl rfl) fun a ha=>?_;refine dT 45 70368744177663 rfl ha (fun _ ⟨rs,hs⟩=>yLoadB Tryz.isAgg9 hs rfl pk1 rfl) (⟨_,hs.pick pk0⟩) fun a ha=>?_;refine dP 46 140737488355327 rfl ha (fun _=>yStrNeq rfl rfl) fun a ha=>?_;refine dP 47 281474976710655 rfl ha (fun _=>yPickT rfl rfl) fun a ha=>?_;refine dP 48 562949953421311 rfl ha (fun _=>yPickF rfl rfl) fun a ha=>?_;refine dP 49 1125899906842623 rfl ha (fun _=>yMove rfl) fun a ha=>?_;refine gSplit (t:=70) ha rfl (fun hg49=>?_) (fun hg49=>?_)
                      · rw [hg49] at ha
                        have hp49 : x.text = emp:=by simpa [emp] using hg49
                        refine dP 50 2251799813685247 rfl ha (fun _=>yFieldA Tryz.runUnderlying50 rfl Tryz.sizeOf9 rfl rfl) fun a ha=>?_;refine dT 51 4503599627370495 rfl ha (fun _ ⟨rs,hs⟩=>yLoadB Tryz.isAgg9 hs rfl pk1 rfl) (⟨_,hs.pick pk0⟩) fun a ha=>?_;refine dP 52 9007199254740991 rfl ha (fun _=>yLenStr Tryz.runUnderlying9 rfl) fun a ha=>?_;refine dP 53 18014398509481983 rfl ha (fun _=>yGtr rfl rfl) fun a ha=>?_;refine dP 54 36028797018963967 rfl ha (fun _=>yPickF rfl rfl) fun a ha=>?_;refine dP 55 72057594037927935 rfl ha (fun _=>yMove rfl) fun a ha=>?_;refine gSplit (t:=76) ha rfl (fun hg55=>?_) (fun hg55=>?_)
                        · rw [hg55] at ha
                          have hp55:=of_decide_eq_false hg55
                          refine dP 56 144115188075855871 rfl ha (fun _=>yFieldA Tryz.runUnderlying50 rfl Tryz.sizeOf9 rfl rfl) fun a ha=>?_;refine dT 57 288230376151711743 rfl ha (fun _ ⟨rs,hs⟩=>yLoadB Tryz.isAgg9 hs rfl pk1 rfl) (⟨_,hs.pick pk0⟩) fun a ha=>?_;refine dCl 58 576460752303423487 rfl (by kernel_rfl) rfl ha (won1 rfl rfl rfl) (nCall Tryz.call55 rfl) rfl (RValid_c x.text (by omega) hs) ?_;rintro v w ⟨rfl,hs⟩ a ha;refine dP 59 1152921504606846975 rfl ha (fun _=>yNot rfl) fun a ha=>?_;refine dP 60 2305843009213693951 rfl ha (fun _=>yPickF rfl rfl) fun a ha=>?_;refine dZ (by kernel_rfl) ?_;refine ⟨rfl,?_⟩;refine ⟨has5 ha ?_ rfl rfl rfl rfl,hs.drop.drop2⟩
                          (refine bN ⟨fun h=>.inr (.inr (.inr (.inr (.inr (.inr (.inr (by simpa using h))))))),fun h=>?_⟩
                           rcases h with h | h | h | h | h | h | h | h
                           · exact absurd h hp3
                           · exact absurd h hp8
                           · exact absurd h.1 (by omega)
                           · rw [hp29] at h; cases h
                           · exact absurd hp40 h
                           · exact absurd hp49 h.2
                           · exfalso; omega
                           · rw [h]; rfl)
                        · rw [hg55] at ha
                          have hp55:=of_decide_eq_true hg55
                          refine dOff 56 144115188075855871 rfl ha fun a ha=>?_;refine dOff 57 288230376151711743 rfl ha fun a ha=>?_;refine dOff 58 576460752303423487 rfl ha fun a ha=>?_;refine dOff 59 1152921504606846975 rfl ha fun a ha=>?_;refine dP 60 2305843009213693951 rfl ha (fun _=>yPickT rfl rfl) fun a ha=>?_;refine dZ (by kernel_rfl) ?_;refine ⟨rfl,?_⟩;refine ⟨has5 ha ?_ rfl rfl rfl rfl,hs.drop.drop2⟩;exact bY (.inr (.inr (.inr (.inr (.inr (.inr (.inl (by omega))))))))
                      · rw [hg49] at ha
                        have hp49 : ¬ x.text = emp:=by simpa [emp] using hg49
                        refine dOff 50 2251799813685247 rfl ha fun a ha=>?_;refine dOff 51 4503599627370495 rfl ha fun a ha=>?_;refine dOff 52 9007199254740991 rfl ha fun a ha=>?_;refine dOff 53 18014398509481983 rfl ha fun a ha=>?_;refine dP 54 36028797018963967 rfl ha (fun _=>yPickT rfl rfl) fun a ha=>?_;refine dP 55 72057594037927935 rfl ha (fun _=>yMove rfl) fun a ha=>?_;refine dOff 56 144115188075855871 rfl ha fun a ha=>?_;refine dOff 57 288230376151711743 rfl ha fun a ha=>?_;refine dOff 58 576460752303423487 rfl ha fun a ha=>?_;refine dOff 59 1152921504606846975 rfl ha fun a ha=>?_;refine dP 60 2305843009213693951 rfl ha (fun _=>yPickT rfl rfl) fun a ha=>?_;refine dZ (by kernel_rfl) ?_;refine ⟨rfl,?_⟩;refine ⟨has5 ha ?_ rfl rfl rfl rfl,hs.drop.drop2⟩;exact bY (.inr (.inr (.inr (.inr (.inr (.inl ⟨hp43,hp49⟩))))))
                  · rw [hg40] at ha
                    have hp40 : ¬ childR xs x.parent x.name = x.id:=by simpa using hg40
                    refine dOff 41 4398046511103 rfl ha fun a ha=>?_;refine dOff 42 8796093022207 rfl ha fun a ha=>?_;refine dOff 43 17592186044415 rfl ha fun a ha=>?_;refine dOffU 44 35184372088831 rfl ha fun a ha=>?_;refine dOffU 45 70368744177663 rfl ha fun a ha=>?_;refine dOffU 46 140737488355327 rfl ha fun a ha=>?_;refine dOff 47 281474976710655 rfl ha fun a ha=>?_;refine dP 48 562949953421311 rfl ha (fun _=>yPickT rfl rfl) fun a ha=>?_;refine dP 49 1125899906842623 rfl ha (fun _=>yMove rfl) fun a ha=>?_;refine dOff 50 2251799813685247 rfl ha fun a ha=>?_;refine dOff 51 4503599627370495 rfl ha fun a ha=>?_;refine dOff 52 9007199254740991 rfl ha fun a ha=>?_;refine dOff 53 18014398509481983 rfl ha fun a ha=>?_;refine dP 54 36028797018963967 rfl ha (fun _=>yPickT rfl rfl) fun a ha=>?_;refine dP 55 72057594037927935 rfl ha (fun _=>yMove rfl) fun a ha=>?_;refine dOff 56 144115188075855871 rfl ha fun a ha=>?_;refine dOff 57 288230376151711743 rfl ha fun a ha=>?_;refine dOff 58 576460752303423487 rfl ha fun a ha=>?_;refine dOff 59 1152921504606846975 rfl ha fun a ha=>?_;refine dP 60 2305843009213693951 rfl ha (fun _=>yPickT rfl rfl) fun a ha=>?_;refine dZ (by kernel_rfl) ?_;refine ⟨rfl,?_⟩;refine ⟨has5 ha ?_ rfl rfl rfl rfl,hs.drop.drop2⟩;exact bY (.inr (.inr (.inr (.inr (.inl hp40)))))
                · rw [hg29] at ha
                  have hp29 : nameOk x.name = false:=by simpa using hg29
                  refine dOff 30 2147483647 rfl ha fun a ha=>?_;refine dOff 31 4294967295 rfl ha fun a ha=>?_;refine dOff 32 8589934591 rfl ha fun a ha=>?_;refine dOff 33 17179869183 rfl ha fun a ha=>?_;refine dOff 34 34359738367 rfl ha fun a ha=>?_;refine dOff 35 68719476735 rfl ha fun a ha=>?_;refine dOff 36 137438953471 rfl ha fun a ha=>?_;refine dOff 37 274877906943 rfl ha fun a ha=>?_;refine dOff 38 549755813887 rfl ha fun a ha=>?_;refine dP 39 1099511627775 rfl ha (fun _=>yPickT rfl rfl) fun a ha=>?_;refine dP 40 2199023255551 rfl ha (fun _=>yMove rfl) fun a ha=>?_;refine dOff 41 4398046511103 rfl ha fun a ha=>?_;refine dOff 42 8796093022207 rfl ha fun a ha=>?_;refine dOff 43 17592186044415 rfl ha fun a ha=>?_;refine dOffU 44 35184372088831 rfl ha fun a ha=>?_;refine dOffU 45 70368744177663 rfl ha fun a ha=>?_;refine dOffU 46 140737488355327 rfl ha fun a ha=>?_;refine dOff 47 281474976710655 rfl ha fun a ha=>?_;refine dP 48 562949953421311 rfl ha (fun _=>yPickT rfl rfl) fun a ha=>?_;refine dP 49 1125899906842623 rfl ha (fun _=>yMove rfl) fun a ha=>?_;refine dOff 50 2251799813685247 rfl ha fun a ha=>?_;refine dOff 51 4503599627370495 rfl ha fun a ha=>?_;refine dOff 52 9007199254740991 rfl ha fun a ha=>?_;refine dOff 53 18014398509481983 rfl ha fun a ha=>?_;refine dP 54 36028797018963967 rfl ha (fun _=>yPickT rfl rfl) fun a ha=>?_;refine dP 55 72057594037927935 rfl ha (fun _=>yMove rfl) fun a ha=>?_;refine dOff 56 144115188075855871 rfl ha fun a ha=>?_;refine dOff 57 288230376151711743 rfl ha fun a ha=>?_;refine dOff 58 576460752303423487 rfl ha fun a ha=>?_;refine dOff 59 1152921504606846975 rfl ha fun a ha=>?_;refine dP 60 2305843009213693951 rfl ha (fun _=>yPickT rfl rfl) fun a ha=>?_;refine dZ (by kernel_rfl) ?_;refine ⟨rfl,?_⟩;refine ⟨has5 ha ?_ rfl rfl rfl rfl,hs.drop.drop2⟩;exact bY (.inr (.inr (.inr (.inl hp29))))
              · rw [hg11] at ha;refine dP 12 8191 rfl ha (fun _=>yMove rfl) fun a ha=>?_;refine dP 13 16383 rfl ha (fun _=>yMove rfl) fun a ha=>?_;refine dP 14 32767 rfl ha (fun _=>ySubN rfl rfl ⟨by omega,by omega⟩) fun a ha=>?_;refine dP 15 65535 rfl ha (fun _=>yIndexA Tryz.runUnderlying24 Tryz.sizeOf50 rfl rfl (by omega) (by omega)) fun a ha=>?_;refine dP 16 131071 rfl ha (fun _=>yFieldA Tryz.runUnderlying50 rfl Tryz.sizeOf3 rfl rfl) fun a ha=>?_;refine dT 17 262143 rfl ha (fun _ ⟨rs,hs⟩=>yLoadR Tryz.isAgg3 hs rfl pk0 rfl) (⟨_,hs.pick pk0⟩) fun a ha=>?_;refine dP 18 524287 rfl ha (fun _=>yFieldA Tryz.runUnderlying50 rfl Tryz.sizeOf3 rfl rfl) fun a ha=>?_;refine dT 19 1048575 rfl ha (fun _ ⟨rs,hs⟩=>yLoadB Tryz.isAgg3 hs rfl pk1 rfl) (⟨_,hs.pick pk0⟩) fun a ha=>?_;refine dP 20 2097151 rfl ha (fun _=>yGeq rfl rfl) fun a ha=>?_;refine dP 21 4194303 rfl ha (fun _=>yPickT rfl rfl) fun a ha=>?_;refine dP 22 8388607 rfl ha (fun _=>yPickF rfl rfl) fun a ha=>?_;refine dP 23 16777215 rfl ha (fun _=>yMove rfl) fun a ha=>?_;refine gSplit (t:=44) ha rfl (fun hg23=>?_) (fun hg23=>?_)
                · rw [hg23] at ha
                  have hp23:=of_decide_eq_false hg23
                  refine dP 24 33554431 rfl ha (fun _=>yFieldA Tryz.runUnderlying50 rfl Tryz.sizeOf9 rfl rfl) fun a ha=>?_;refine dT 25 67108863 rfl ha (fun _ ⟨rs,hs⟩=>yLoadB Tryz.isAgg9 hs rfl pk1 rfl) (⟨_,hs.pick pk0⟩) fun a ha=>?_;refine dC 26 134217727 rfl (by kernel_rfl) rfl ha (won1 rfl rfl rfl) (nCall Tryz.call51 rfl) rfl (RName_c x.name hm1 hs) ?_;rintro v w ⟨rfl,hs⟩;refine ⟨⟨_,hs.pick pk0⟩,fun a ha=>?_⟩;refine dP 27 268435455 rfl ha (fun _=>yNot rfl) fun a ha=>?_;refine dP 28 536870911 rfl ha (fun _=>yPickF rfl rfl) fun a ha=>?_;refine dP 29 1073741823 rfl ha (fun _=>yMove rfl) fun a ha=>?_;refine gSplit (t:=50) ha rfl (fun hg29=>?_) (fun hg29=>?_)
                  · rw [hg29] at ha
                    have hp29 : nameOk x.name = true:=by simpa using hg29
                    refine dP 30 2147483647 rfl ha (fun _=>yMove rfl) fun a ha=>?_;refine dP 31 4294967295 rfl ha (fun _=>yFieldA Tryz.runUnderlying50 rfl Tryz.sizeOf3 rfl rfl) fun a ha=>?_;refine dT 32 8589934591 rfl ha (fun _ ⟨rs,hs⟩=>yLoadB Tryz.isAgg3 hs rfl pk1 rfl) (⟨_,hs.pick pk0⟩) fun a ha=>?_;refine dP 33 17179869183 rfl ha (fun _=>yFieldA Tryz.runUnderlying50 rfl Tryz.sizeOf9 rfl rfl) fun a ha=>?_;refine dT 34 34359738367 rfl ha (fun _ ⟨rs,hs⟩=>yLoadB Tryz.isAgg9 hs rfl pk1 rfl) (⟨_,hs.pick pk0⟩) fun a ha=>?_;refine dP 36 103079215103 rfl ha (fun _=>yFieldA Tryz.runUnderlying50 rfl Tryz.sizeOf3 rfl rfl) fun a ha=>?_;refine dT 37 240518168575 rfl ha (fun _ ⟨rs,hs⟩=>yLoadB Tryz.isAgg3 hs rfl pk1 rfl) (⟨_,hs.pick pk0⟩) fun a ha=>?_;refine dC 35 274877906943 rfl (by kernel_rfl) rfl ha (won1 rfl rfl rfl) (nCall Tryz.call54 rfl) rfl (Child_c (xs:=xs) x.parent x.name hs pk3) ?_;rintro v w ⟨rfl,hs⟩;refine ⟨⟨_,hs.pick pk0⟩,fun a ha=>?_⟩;refine dP 38 549755813887 rfl ha (fun _=>yNeq rfl rfl) fun a ha=>?_;refine dP 39 1099511627775 rfl ha (fun _=>yPickF rfl rfl) fun a ha=>?_;refine dP 40 2199023255551 rfl ha (fun _=>yMove rfl) fun a ha=>?_;refine gSplit (t:=61) ha rfl (fun hg40=>?_) (fun hg40=>?_)
                    · rw [hg40] at ha
                      have hp40 : childR xs x.parent x.name = x.id:=by simpa using hg40
                      refine dP 41 4398046511103 rfl ha (fun _=>yFieldA Tryz.runUnderlying50 rfl Tryz.sizeOf4 rfl rfl) fun a ha=>?_;refine dT 42 8796093022207 rfl ha (fun _ ⟨rs,hs⟩=>yLoadB Tryz.isAgg4 hs rfl pk1 rfl) (⟨_,hs.pick pk0⟩) fun a ha=>?_;refine dP 43 17592186044415 rfl ha (fun _=>yMove rfl) fun a ha=>?_;refine gSplit (t:=64) ha rfl (fun hg43=>?_) (fun hg43=>?_)
                      · rw [hg43] at ha
                        have hp43 : x.dir = false:=hg43
                        refine dOff 44 35184372088831 rfl ha fun a ha=>?_;refine dOff 45 70368744177663 rfl ha fun a ha=>?_;refine dOff 46 140737488355327 rfl ha fun a ha=>?_;refine dP 47 281474976710655 rfl ha (fun _=>yPickF rfl rfl) fun a ha=>?_;refine dP 48 562949953421311 rfl ha (fun _=>yPickF rfl rfl) fun a ha=>?_;refine dP 49 1125899906842623 rfl ha (fun _=>yMove rfl) fun a ha=>?_;refine dP 50 2251799813685247 rfl ha (fun _=>yFieldA Tryz.runUnderlying50 rfl Tryz.sizeOf9 rfl rfl) fun a ha=>?_;refine dT 51 4503599627370495 rfl ha (fun _ ⟨rs,hs⟩=>yLoadB Tryz.isAgg9 hs rfl pk1 rfl) (⟨_,hs.pick pk0⟩) fun a ha=>?_;refine dP 52 9007199254740991 rfl ha (fun _=>yLenStr Tryz.runUnderlying9 rfl) fun a ha=>?_;refine dP 53 18014398509481983 rfl ha (fun _=>yGtr rfl rfl) fun a ha=>?_;refine dP 54 36028797018963967 rfl ha (fun _=>yPickF rfl rfl) fun a ha=>?_;refine dP 55 72057594037927935 rfl ha (fun _=>yMove rfl) fun a ha=>?_;refine gSplit (t:=76) ha rfl (fun hg55=>?_) (fun hg55=>?_)
                        · rw [hg55] at ha
                          have hp55:=of_decide_eq_false hg55
                          refine dP 56 144115188075855871 rfl ha (fun _=>yFieldA Tryz.runUnderlying50 rfl Tryz.sizeOf9 rfl rfl) fun a ha=>?_;refine dT 57 288230376151711743 rfl ha (fun _ ⟨rs,hs⟩=>yLoadB Tryz.isAgg9 hs rfl pk1 rfl) (⟨_,hs.pick pk0⟩) fun a ha=>?_;refine dCl 58 576460752303423487 rfl (by kernel_rfl) rfl ha (won1 rfl rfl rfl) (nCall Tryz.call55 rfl) rfl (RValid_c x.text (by omega) hs) ?_;rintro v w ⟨rfl,hs⟩ a ha;refine dP 59 1152921504606846975 rfl ha (fun _=>yNot rfl) fun a ha=>?_;refine dP 60 2305843009213693951 rfl ha (fun _=>yPickF rfl rfl) fun a ha=>?_;refine dZ (by kernel_rfl) ?_;refine ⟨rfl,?_⟩;refine ⟨has5 ha ?_ rfl rfl rfl rfl,hs.drop.drop2⟩
                          (refine bN ⟨fun h=>.inr (.inr (.inr (.inr (.inr (.inr (.inr (by simpa using h))))))),fun h=>?_⟩
                           rcases h with h | h | h | h | h | h | h | h
                           · exact absurd h hp3
                           · exact absurd h hp8
                           · exact absurd h.2 hp23
                           · rw [hp29] at h; cases h
                           · exact absurd hp40 h
                           · (rw [hp43] at h; cases h.1)
                           · exfalso; omega
                           · rw [h]; rfl)
                        · rw [hg55] at ha
                          have hp55:=of_decide_eq_true hg55
                          refine dOff 56 144115188075855871 rfl ha fun a ha=>?_;refine dOff 57 288230376151711743 rfl ha fun a ha=>?_;refine dOff 58 576460752303423487 rfl ha fun a ha=>?_;refine dOff 59 1152921504606846975 rfl ha fun a ha=>?_;refine dP 60 2305843009213693951 rfl ha (fun _=>yPickT rfl rfl) fun a ha=>?_;refine dZ (by kernel_rfl) ?_;refine ⟨rfl,?_⟩;refine ⟨has5 ha ?_ rfl rfl rfl rfl,hs.drop.drop2⟩;exact bY (.inr (.inr (.inr (.inr (.inr (.inr (.inl (by omega))))))))
                      · rw [hg43] at ha
                        have hp43 : x.dir = true:=hg43
                        refine dP 44 35184372088831 rfl ha (fun _=>yFieldA Tryz.runUnderlying50 rfl Tryz.sizeOf9 rfl rfl) fun a ha=>?_;refine dT 45 70368744177663 rfl ha (fun _ ⟨rs,hs⟩=>yLoadB Tryz.isAgg9 hs rfl pk1 rfl) (⟨_,hs.pick pk0⟩) fun a ha=>?_;refine dP 46 140737488355327 rfl ha (fun _=>yStrNeq rfl rfl) fun a ha=>?_;refine dP 47 281474976710655 rfl ha (fun _=>yPickT rfl rfl) fun a ha=>?_;refine dP 48 562949953421311 rfl ha (fun _=>yPickF rfl rfl) fun a ha=>?_;refine dP 49 1125899906842623 rfl ha (fun _=>yMove rfl) fun a ha=>?_;refine gSplit (t:=70) ha rfl (fun hg49=>?_) (fun hg49=>?_)
                        · rw [hg49] at ha
                          have hp49 : x.text = emp:=by simpa [emp] using hg49
                          refine dP 50 2251799813685247 rfl ha (fun _=>yFieldA Tryz.runUnderlying50 rfl Tryz.sizeOf9 rfl rfl) fun a ha=>?_;refine dT 51 4503599627370495 rfl ha (fun _ ⟨rs,hs⟩=>yLoadB Tryz.isAgg9 hs rfl pk1 rfl) (⟨_,hs.pick pk0⟩) fun a ha=>?_;refine dP 52 9007199254740991 rfl ha (fun _=>yLenStr Tryz.runUnderlying9 rfl) fun a ha=>?_;refine dP 53 18014398509481983 rfl ha (fun _=>yGtr rfl rfl) fun a ha=>?_;refine dP 54 36028797018963967 rfl ha (fun _=>yPickF rfl rfl) fun a ha=>?_;refine dP 55 72057594037927935 rfl ha (fun _=>yMove rfl) fun a ha=>?_;refine gSplit (t:=76) ha rfl (fun hg55=>?_) (fun hg55=>?_)
                          · rw [hg55] at ha
                            have hp55:=of_decide_eq_false hg55
                            refine dP 56 144115188075855871 rfl ha (fun _=>yFieldA Tryz.runUnderlying50 rfl Tryz.sizeOf9 rfl rfl) fun a ha=>?_;refine dT 57 288230376151711743 rfl ha (fun _ ⟨rs,hs⟩=>yLoadB Tryz.isAgg9 hs rfl pk1 rfl) (⟨_,hs.pick pk0⟩) fun a ha=>?_;refine dCl 58 576460752303423487 rfl (by kernel_rfl) rfl ha (won1 rfl rfl rfl) (nCall Tryz.call55 rfl) rfl (RValid_c x.text (by omega) hs) ?_;rintro v w ⟨rfl,hs⟩ a ha;refine dP 59 1152921504606846975 rfl ha (fun _=>yNot rfl) fun a ha=>?_;refine dP 60 2305843009213693951 rfl ha (fun _=>yPickF rfl rfl) fun a ha=>?_;refine dZ (by kernel_rfl) ?_;refine ⟨rfl,?_⟩;refine ⟨has5 ha ?_ rfl rfl rfl rfl,hs.drop.drop2⟩
                            (refine bN ⟨fun h=>.inr (.inr (.inr (.inr (.inr (.inr (.inr (by simpa using h))))))),fun h=>?_⟩
                             rcases h with h | h | h | h | h | h | h | h
                             · exact absurd h hp3
                             · exact absurd h hp8
                             · exact absurd h.2 hp23
                             · rw [hp29] at h; cases h
                             · exact absurd hp40 h
                             · exact absurd hp49 h.2
                             · exfalso; omega
                             · rw [h]; rfl)
                          · rw [hg55] at ha
                            have hp55:=of_decide_eq_true hg55
                            refine dOff 56 144115188075855871 rfl ha fun a ha=>?_;refine dOff 57 288230376151711743 rfl ha fun a ha=>?_;refine dOff 58 576460752303423487 rfl ha fun a ha=>?_;refine dOff 59 1152921504606846975 rfl ha fun a ha=>?_;refine dP 60 2305843009213693951 rfl ha (fun _=>yPickT rfl rfl) fun a ha=>?_;refine dZ (by kernel_rfl) ?_;refine ⟨rfl,?_⟩;refine ⟨has5 ha ?_ rfl rfl rfl rfl,hs.drop.drop2⟩;exact bY (.inr (.inr (.inr (.inr (.inr (.inr (.inl (by omega))))))))
                        · rw [hg49] at ha
                          have hp49 : ¬ x.text = emp:=by simpa [emp] using hg49
                          refine dOff 50 2251799813685247 rfl ha fun a ha=>?_;refine dOff 51 4503599627370495 rfl ha fun a ha=>?_;refine dOff 52 9007199254740991 rfl ha fun a ha=>?_;refine dOff 53 18014398509481983 rfl ha fun a ha=>?_;refine dP 54 36028797018963967 rfl ha (fun _=>yPickT rfl rfl) fun a ha=>?_;refine dP 55 72057594037927935 rfl ha (fun _=>yMove rfl) fun a ha=>?_;refine dOff 56 144115188075855871 rfl ha fun a ha=>?_;refine dOff 57 288230376151711743 rfl ha fun a ha=>?_;refine dOff 58 576460752303423487 rfl ha fun a ha=>?_;refine dOff 59 1152921504606846975 rfl ha fun a ha=>?_;refine dP 60 2305843009213693951 rfl ha (fun _=>yPickT rfl rfl) fun a ha=>?_;refine dZ (by kernel_rfl) ?_;refine ⟨rfl,?_⟩;refine ⟨has5 ha ?_ rfl rfl rfl rfl,hs.drop.drop2⟩;exact bY (.inr (.inr (.inr (.inr (.inr (.inl ⟨hp43,hp49⟩))))))
                    · rw [hg40] at ha
                      have hp40 : ¬ childR xs x.parent x.name = x.id:=by simpa using hg40
                      refine dOff 41 4398046511103 rfl ha fun a ha=>?_;refine dOff 42 8796093022207 rfl ha fun a ha=>?_;refine dOff 43 17592186044415 rfl ha fun a ha=>?_;refine dOffU 44 35184372088831 rfl ha fun a ha=>?_;refine dOffU 45 70368744177663 rfl ha fun a ha=>?_;refine dOffU 46 140737488355327 rfl ha fun a ha=>?_;refine dOff 47 281474976710655 rfl ha fun a ha=>?_;refine dP 48 562949953421311 rfl ha (fun _=>yPickT rfl rfl) fun a ha=>?_;refine dP 49 1125899906842623 rfl ha (fun _=>yMove rfl) fun a ha=>?_;refine dOff 50 2251799813685247 rfl ha fun a ha=>?_;refine dOff 51 4503599627370495 rfl ha fun a ha=>?_;refine dOff 52 9007199254740991 rfl ha fun a ha=>?_;refine dOff 53 18014398509481983 rfl ha fun a ha=>?_;refine dP 54 36028797018963967 rfl ha (fun _=>yPickT rfl rfl) fun a ha=>?_;refine dP 55 72057594037927935 rfl ha (fun _=>yMove rfl) fun a ha=>?_;refine dOff 56 144115188075855871 rfl ha fun a ha=>?_;refine dOff 57 288230376151711743 rfl ha fun a ha=>?_;refine dOff 58 576460752303423487 rfl ha fun a ha=>?_;refine dOff 59 1152921504606846975 rfl ha fun a ha=>?_;refine dP 60 2305843009213693951 rfl ha (fun _=>yPickT rfl rfl) fun a ha=>?_;refine dZ (by kernel_rfl) ?_;refine ⟨rfl,?_⟩;refine ⟨has5 ha ?_ rfl rfl rfl rfl,hs.drop.drop2⟩;exact bY (.inr (.inr (.inr (.inr (.inl hp40)))))
                  · rw [hg29] at ha
                    have hp29 : nameOk x.name = false:=by simpa using hg29
                    refine dOff 30 2147483647 rfl ha fun a ha=>?_;refine dOff 31 4294967295 rfl ha fun a ha=>?_;refine dOff 32 8589934591 rfl ha fun a ha=>?_;refine dOff 33 17179869183 rfl ha fun a ha=>?_;refine dOff 34 34359738367 rfl ha fun a ha=>?_;refine dOff 35 68719476735 rfl ha fun a ha=>?_;refine dOff 36 137438953471 rfl ha fun a ha=>?_;refine dOff 37 274877906943 rfl ha fun a ha=>?_;refine dOff 38 549755813887 rfl ha fun a ha=>?_;refine dP 39 1099511627775 rfl ha (fun _=>yPickT rfl rfl) fun a ha=>?_;refine dP 40 2199023255551 rfl ha (fun _=>yMove rfl) fun a ha=>?_;refine dOff 41 4398046511103 rfl ha fun a ha=>?_;refine dOff 42 8796093022207 rfl ha fun a ha=>?_;refine dOff 43 17592186044415 rfl ha fun a ha=>?_;refine dOffU 44 35184372088831 rfl ha fun a ha=>?_;refine dOffU 45 70368744177663 rfl ha fun a ha=>?_;refine dOffU 46 140737488355327 rfl ha fun a ha=>?_;refine dOff 47 281474976710655 rfl ha fun a ha=>?_;refine dP 48 562949953421311 rfl ha (fun _=>yPickT rfl rfl) fun a ha=>?_;refine dP 49 1125899906842623 rfl ha (fun _=>yMove rfl) fun a ha=>?_;refine dOff 50 2251799813685247 rfl ha fun a ha=>?_;refine dOff 51 4503599627370495 rfl ha fun a ha=>?_;refine dOff 52 9007199254740991 rfl ha fun a ha=>?_;refine dOff 53 18014398509481983 rfl ha fun a ha=>?_;refine dP 54 36028797018963967 rfl ha (fun _=>yPickT rfl rfl) fun a ha=>?_;refine dP 55 72057594037927935 rfl ha (fun _=>yMove rfl) fun a ha=>?_;refine dOff 56 144115188075855871 rfl ha fun a ha=>?_;refine dOff 57 288230376151711743 rfl ha fun a ha=>?_;refine dOff 58 576460752303423487 rfl ha fun a ha=>?_;refine dOff 59 1152921504606846975 rfl ha fun a ha=>?_;refine dP 60 2305843009213693951 rfl ha (fun _=>yPickT rfl rfl) fun a ha=>?_;refine dZ (by kernel_rfl) ?_;refine ⟨rfl,?_⟩;refine ⟨has5 ha ?_ rfl rfl rfl rfl,hs.drop.drop2⟩;exact bY (.inr (.inr (.inr (.inl hp29))))
                · rw [hg23] at ha
                  have hp23:=of_decide_eq_true hg23
                  refine dOff 24 33554431 rfl ha fun a ha=>?_;refine dOff 25 67108863 rfl ha fun a ha=>?_;refine dOff 26 134217727 rfl ha fun a ha=>?_;refine dOff 27 268435455 rfl ha fun a ha=>?_;refine dP 28 536870911 rfl ha (fun _=>yPickT rfl rfl) fun a ha=>?_;refine dP 29 1073741823 rfl ha (fun _=>yMove rfl) fun a ha=>?_;refine dOff 30 2147483647 rfl ha fun a ha=>?_;refine dOff 31 4294967295 rfl ha fun a ha=>?_;refine dOff 32 8589934591 rfl ha fun a ha=>?_;refine dOff 33 17179869183 rfl ha fun a ha=>?_;refine dOff 34 34359738367 rfl ha fun a ha=>?_;refine dOff 35 68719476735 rfl ha fun a ha=>?_;refine dOff 36 137438953471 rfl ha fun a ha=>?_;refine dOff 37 274877906943 rfl ha fun a ha=>?_;refine dOff 38 549755813887 rfl ha fun a ha=>?_;refine dP 39 1099511627775 rfl ha (fun _=>yPickT rfl rfl) fun a ha=>?_;refine dP 40 2199023255551 rfl ha (fun _=>yMove rfl) fun a ha=>?_;refine dOff 41 4398046511103 rfl ha fun a ha=>?_;refine dOff 42 8796093022207 rfl ha fun a ha=>?_;refine dOff 43 17592186044415 rfl ha fun a ha=>?_;refine dOffU 44 35184372088831 rfl ha fun a ha=>?_;refine dOffU 45 70368744177663 rfl ha fun a ha=>?_;refine dOffU 46 140737488355327 rfl ha fun a ha=>?_;refine dOff 47 281474976710655 rfl ha fun a ha=>?_;refine dP 48 562949953421311 rfl ha (fun _=>yPickT rfl rfl) fun a ha=>?_;refine dP 49 1125899906842623 rfl ha (fun _=>yMove rfl) fun a ha=>?_;refine dOff 50 2251799813685247 rfl ha fun a ha=>?_;refine dOff 51 4503599627370495 rfl ha fun a ha=>?_;refine dOff 52 9007199254740991 rfl ha fun a ha=>?_;refine dOff 53 18014398509481983 rfl ha fun a ha=>?_;refine dP 54 36028797018963967 rfl ha (fun _=>yPickT rfl rfl) fun a ha=>?_;refine dP 55 72057594037927935 rfl ha (fun _=>yMove rfl) fun a ha=>?_;refine dOff 56 144115188075855871 rfl ha fun a ha=>?_;refine dOff 57 288230376151711743 rfl ha fun a ha=>?_;refine dOff 58 576460752303423487 rfl ha fun a ha=>?_;refine dOff 59 1152921504606846975 rfl ha fun a ha=>?_;refine dP 60 2305843009213693951 rfl ha (fun _=>yPickT rfl rfl) fun a ha=>?_;refine dZ (by kernel_rfl) ?_;refine ⟨rfl,?_⟩;refine ⟨has5 ha ?_ rfl rfl rfl rfl,hs.drop.drop2⟩;exact bY (.inr (.inr (.inl ⟨by omega,hp23⟩)))
            · rw [hg8] at ha
              have hp8:=of_decide_eq_true hg8
              refine dOff 9 1023 rfl ha fun a ha=>?_;refine dOff 10 2047 rfl ha fun a ha=>?_;refine dOff 11 4095 rfl ha fun a ha=>?_;refine dOffU 12 8191 rfl ha fun a ha=>?_;refine dOffU 13 16383 rfl ha fun a ha=>?_;refine dOffU 14 32767 rfl ha fun a ha=>?_;refine dOffU 15 65535 rfl ha fun a ha=>?_;refine dOffU 16 131071 rfl ha fun a ha=>?_;refine dOffU 17 262143 rfl ha fun a ha=>?_;refine dOffU 18 524287 rfl ha fun a ha=>?_;refine dOffU 19 1048575 rfl ha fun a ha=>?_;refine dOffU 20 2097151 rfl ha fun a ha=>?_;refine dOff 21 4194303 rfl ha fun a ha=>?_;refine dP 22 8388607 rfl ha (fun _=>yPickT rfl rfl) fun a ha=>?_;refine dP 23 16777215 rfl ha (fun _=>yMove rfl) fun a ha=>?_;refine dOff 24 33554431 rfl ha fun a ha=>?_;refine dOff 25 67108863 rfl ha fun a ha=>?_;refine dOff 26 134217727 rfl ha fun a ha=>?_;refine dOff 27 268435455 rfl ha fun a ha=>?_;refine dP 28 536870911 rfl ha (fun _=>yPickT rfl rfl) fun a ha=>?_;refine dP 29 1073741823 rfl ha (fun _=>yMove rfl) fun a ha=>?_;refine dOff 30 2147483647 rfl ha fun a ha=>?_;refine dOff 31 4294967295 rfl ha fun a ha=>?_;refine dOff 32 8589934591 rfl ha fun a ha=>?_;refine dOff 33 17179869183 rfl ha fun a ha=>?_;refine dOff 34 34359738367 rfl ha fun a ha=>?_;refine dOff 35 68719476735 rfl ha fun a ha=>?_;refine dOff 36 137438953471 rfl ha fun a ha=>?_;refine dOff 37 274877906943 rfl ha fun a ha=>?_;refine dOff 38 549755813887 rfl ha fun a ha=>?_;refine dP 39 1099511627775 rfl ha (fun _=>yPickT rfl rfl) fun a ha=>?_;refine dP 40 2199023255551 rfl ha (fun _=>yMove rfl) fun a ha=>?_;refine dOff 41 4398046511103 rfl ha fun a ha=>?_;refine dOff 42 8796093022207 rfl ha fun a ha=>?_;refine dOff 43 17592186044415 rfl ha fun a ha=>?_;refine dOffU 44 35184372088831 rfl ha fun a ha=>?_;refine dOffU 45 70368744177663 rfl ha fun a ha=>?_;refine dOffU 46 140737488355327 rfl ha fun a ha=>?_;refine dOff 47 281474976710655 rfl ha fun a ha=>?_;refine dP 48 562949953421311 rfl ha (fun _=>yPickT rfl rfl) fun a ha=>?_;refine dP 49 1125899906842623 rfl ha (fun _=>yMove rfl) fun a ha=>?_;refine dOff 50 2251799813685247 rfl ha fun a ha=>?_;refine dOff 51 4503599627370495 rfl ha fun a ha=>?_;refine dOff 52 9007199254740991 rfl ha fun a ha=>?_;refine dOff 53 18014398509481983 rfl ha fun a ha=>?_;refine dP 54 36028797018963967 rfl ha (fun _=>yPickT rfl rfl) fun a ha=>?_;refine dP 55 72057594037927935 rfl ha (fun _=>yMove rfl) fun a ha=>?_;refine dOff 56 144115188075855871 rfl ha fun a ha=>?_;refine dOff 57 288230376151711743 rfl ha fun a ha=>?_;refine dOff 58 576460752303423487 rfl ha fun a ha=>?_;refine dOff 59 1152921504606846975 rfl ha fun a ha=>?_;refine dP 60 2305843009213693951 rfl ha (fun _=>yPickT rfl rfl) fun a ha=>?_;refine dZ (by kernel_rfl) ?_;refine ⟨rfl,?_⟩;refine ⟨has5 ha ?_ rfl rfl rfl rfl,hs.drop.drop2⟩;exact bY (.inr (.inl hp8))
          · rw [hg3] at ha;refine dOff 4 31 rfl ha fun a ha=>?_;refine dOff 5 63 rfl ha fun a ha=>?_;refine dOff 6 127 rfl ha fun a ha=>?_;refine dP 7 255 rfl ha (fun _=>yPickT rfl rfl) fun a ha=>?_;refine dP 8 511 rfl ha (fun _=>yMove rfl) fun a ha=>?_;refine dOff 9 1023 rfl ha fun a ha=>?_;refine dOff 10 2047 rfl ha fun a ha=>?_;refine dOff 11 4095 rfl ha fun a ha=>?_;refine dOffU 12 8191 rfl ha fun a ha=>?_;refine dOffU 13 16383 rfl ha fun a ha=>?_;refine dOffU 14 32767 rfl ha fun a ha=>?_;refine dOffU 15 65535 rfl ha fun a ha=>?_;refine dOffU 16 131071 rfl ha fun a ha=>?_;refine dOffU 17 262143 rfl ha fun a ha=>?_;refine dOffU 18 524287 rfl ha fun a ha=>?_;refine dOffU 19 1048575 rfl ha fun a ha=>?_;refine dOffU 20 2097151 rfl ha fun a ha=>?_;refine dOff 21 4194303 rfl ha fun a ha=>?_;refine dP 22 8388607 rfl ha (fun _=>yPickT rfl rfl) fun a ha=>?_;refine dP 23 16777215 rfl ha (fun _=>yMove rfl) fun a ha=>?_;refine dOff 24 33554431 rfl ha fun a ha=>?_;refine dOff 25 67108863 rfl ha fun a ha=>?_;refine dOff 26 134217727 rfl ha fun a ha=>?_;refine dOff 27 268435455 rfl ha fun a ha=>?_;refine dP 28 536870911 rfl ha (fun _=>yPickT rfl rfl) fun a ha=>?_;refine dP 29 1073741823 rfl ha (fun _=>yMove rfl) fun a ha=>?_;refine dOff 30 2147483647 rfl ha fun a ha=>?_;refine dOff 31 4294967295 rfl ha fun a ha=>?_;refine dOff 32 8589934591 rfl ha fun a ha=>?_;refine dOff 33 17179869183 rfl ha fun a ha=>?_;refine dOff 34 34359738367 rfl ha fun a ha=>?_;refine dOff 35 68719476735 rfl ha fun a ha=>?_;refine dOff 36 137438953471 rfl ha fun a ha=>?_;refine dOff 37 274877906943 rfl ha fun a ha=>?_;refine dOff 38 549755813887 rfl ha fun a ha=>?_;refine dP 39 1099511627775 rfl ha (fun _=>yPickT rfl rfl) fun a ha=>?_;refine dP 40 2199023255551 rfl ha (fun _=>yMove rfl) fun a ha=>?_;refine dOff 41 4398046511103 rfl ha fun a ha=>?_;refine dOff 42 8796093022207 rfl ha fun a ha=>?_;refine dOff 43 17592186044415 rfl ha fun a ha=>?_;refine dOffU 44 35184372088831 rfl ha fun a ha=>?_;refine dOffU 45 70368744177663 rfl ha fun a ha=>?_;refine dOffU 46 140737488355327 rfl ha fun a ha=>?_;refine dOff 47 281474976710655 rfl ha fun a ha=>?_;refine dP 48 562949953421311 rfl ha (fun _=>yPickT rfl rfl) fun a ha=>?_;refine dP 49 1125899906842623 rfl ha (fun _=>yMove rfl) fun a ha=>?_;refine dOff 50 2251799813685247 rfl ha fun a ha=>?_;refine dOff 51 4503599627370495 rfl ha fun a ha=>?_;refine dOff 52 9007199254740991 rfl ha fun a ha=>?_;refine dOff 53 18014398509481983 rfl ha fun a ha=>?_;refine dP 54 36028797018963967 rfl ha (fun _=>yPickT rfl rfl) fun a ha=>?_;refine dP 55 72057594037927935 rfl ha (fun _=>yMove rfl) fun a ha=>?_;refine dOff 56 144115188075855871 rfl ha fun a ha=>?_;refine dOff 57 288230376151711743 rfl ha fun a ha=>?_;refine dOff 58 576460752303423487 rfl ha fun a ha=>?_;refine dOff 59 1152921504606846975 rfl ha fun a ha=>?_;refine dP 60 2305843009213693951 rfl ha (fun _=>yPickT rfl rfl) fun a ha=>?_;refine dZ (by kernel_rfl) ?_;refine ⟨rfl,?_⟩;refine ⟨has5 ha ?_ rfl rfl rfl rfl,hs.drop.drop2⟩
            exact bY (.inl hp3)
        rintro a w ⟨ha,hs⟩;refine hK13 _ _ ?_;refine cDec ha rfl (fun hc81=>?_) (fun hc81=>?_)
        · refine wp_seq_k fun K14 hK14=>?_;refine wp_region_lit ?_;refine pY ha (yAssign rfl) fun a ha=>?_;refine pZ ?_;refine hK14 _ _ ?_;refine wp_ret ?_;show bodyPost Tryz.prog Tryz.f18 _ .ret _ _;refine ret1 rfl ha rfl ?_
          (have hbad : goodR xs i = false:=by (
             cases hgo : goodR xs i with
             | false=>rfl
             | true=>
               obtain ⟨q1,q2,q3,q4⟩:=(goodR_at hx hgy).1 hgo
               exfalso
               exact q1 hc81)
           refine ⟨congrArg Value.bool ?_,?_⟩
           · rw [hsE]; exact (allN_no (i:=i) (n:=xs.length) (by omega) hbad).symm
           · exact hs.drop.drop)
        · refine wp_skip ?_;refine hK12 _ _ ?_;refine wp_seq_k fun K15 hK15=>?_
          have hok : okText x.text.data.toList = true:=by
            cases h : okText x.text.data.toList with
            | true=>rfl
            | false=>exact (hc81 (.inr (.inr (.inr (.inr (.inr (.inr (.inr h)))))))).elim
          refine wp_region_lit ?_;refine pY ha (yFieldA Tryz.runUnderlying50 rfl Tryz.sizeOf9 rfl rfl) fun a ha=>?_;refine pY ha (yLoadB Tryz.isAgg9 hs rfl pk0 rfl) fun a ha=>?_;refine pC ha (nCall Tryz.call53 rfl) rfl (RCount_c x.text hok (by omega) hs) ?_;rintro v w ⟨rfl,hs⟩ a ha;refine pY ha (yAssign rfl) fun a ha=>?_;refine pZ ?_;refine hK15 _ _ ?_;refine wp_seq_k fun K16 hK16=>?_;refine wp_region_lit ?_;refine pY ha (yMove rfl) fun a ha=>?_;refine pY ha (yMove rfl) fun a ha=>?_;refine pY ha (yAddN rfl rfl ⟨by omega,by omega⟩) fun a ha=>?_;refine pY ha (yAssign rfl) fun a ha=>?_;refine pZ ?_;refine hK16 _ _ ?_;refine wp_seq_k fun K17 hK17=>?_;refine wp_seq_k fun K18 hK18=>?_;refine wp_region_lit ?_;refine pY ha (yMove rfl) fun a ha=>?_;refine pY ha (yGtr rfl rfl) fun a ha=>?_;refine pY ha (yMove rfl) fun a ha=>?_;refine gDec (t:=90) ha rfl (fun hg2 hp2=>?_) (fun hg2 hp2=>?_)
          · rw [hg2] at ha;refine gOn ha ?_;refine pY ha (yMove rfl) fun a ha=>?_;refine gOn ha ?_;refine pY ha (yGtr rfl rfl) fun a ha=>?_;refine pY ha (yPickF rfl rfl) fun a ha=>?_;refine pZ ?_;refine hK18 _ _ ?_;refine cDec ha rfl (fun hc93=>?_) (fun hc93=>?_)
            · refine wp_seq_k fun K19 hK19=>?_;refine wp_region_lit ?_;refine pY ha (yAssign rfl) fun a ha=>?_;refine pZ ?_;refine hK19 _ _ ?_;refine wp_ret ?_;show bodyPost Tryz.prog Tryz.f18 _ .ret _ _;refine ret1 rfl ha rfl ?_
              (have hbad : goodR xs i = false:=by (
                 cases hgo : goodR xs i with
                 | false=>rfl
                 | true=>
                   obtain ⟨q1,q2,q3,q4⟩:=(goodR_at hx hgy).1 hgo
                   exfalso
                   omega)
               refine ⟨congrArg Value.bool ?_,?_⟩
               · rw [hsE]; exact (allN_no (i:=i) (n:=xs.length) (by omega) hbad).symm
               · exact hs.drop.drop)
            · refine wp_skip ?_;refine hK17 _ _ ?_;refine wp_seq_k fun K20 hK20=>?_;refine wp_region_lit ?_;refine pY ha (yFieldA Tryz.runUnderlying50 rfl Tryz.sizeOf3 rfl rfl) fun a ha=>?_;refine pY ha (yLoadB Tryz.isAgg3 hs rfl pk0 rfl) fun a ha=>?_;refine pY ha (yNeq rfl rfl) fun a ha=>?_;refine pZ ?_;refine hK20 _ _ ?_;refine cNDec ha rfl (fun hc96=>?_) (fun hc96=>?_)
              · refine wp_seq_k fun K21 hK21=>?_;refine wp_region_lit ?_;refine pY ha (yMove rfl) fun a ha=>?_;refine pY ha (yFieldA Tryz.runUnderlying50 rfl Tryz.sizeOf3 rfl rfl) fun a ha=>?_;refine pY ha (yLoadB Tryz.isAgg3 hs rfl pk0 rfl) fun a ha=>?_;refine pC ha (nCall Tryz.call56 rfl) rfl (Find_c (xs:=xs) x.parent hs pk1) ?_;rintro v w ⟨k,rfl,hk2,hs⟩ a ha;refine pY ha (yAssign rfl) fun a ha=>?_;refine pZ ?_;refine hK21 _ _ ?_;refine wp_seq_k fun K22 hK22=>?_;refine wp_region_lit ?_;refine pY ha (yMove rfl) fun a ha=>?_;refine pY ha (yLss rfl rfl) fun a ha=>?_;refine pY ha (yMove rfl) fun a ha=>?_;refine gDec (t:=103) ha rfl (fun hg2 hp2=>?_) (fun hg2 hp2=>?_)
                · rw [hg2] at ha;obtain ⟨j,z,rfl,hz,hf,hin⟩:=hk2.resolve_right (fun h=>by omega)
                  have hj:=(List.getElem?_eq_some_iff.1 hz).1
                  obtain ⟨b2,off2,e2,hs⟩:=hs.rd_nod (.there .here) hz;simp only [Option.some.injEq,Addr.mk.injEq,and_true] at e2;obtain ⟨rfl,rfl⟩:=e2;refine gOn ha ?_;refine pY ha (yMove rfl) fun a ha=>?_;refine gOn ha ?_;refine pY ha (yMove rfl) fun a ha=>?_;refine gOn ha ?_;refine pY ha (yIndexA Tryz.runUnderlying24 Tryz.sizeOf50 rfl rfl (by omega) (by omega)) fun a ha=>?_;refine gOn ha ?_;refine pY ha (yFieldA Tryz.runUnderlying50 rfl Tryz.sizeOf4 rfl rfl) fun a ha=>?_;refine gOn ha ?_;refine pY ha (yLoadR Tryz.isAgg4 hs rfl pk0 rfl) fun a ha=>?_;refine gOn ha ?_;refine pY ha (yNot rfl) fun a ha=>?_;refine pY ha (yPickF rfl rfl) fun a ha=>?_;refine pY ha (yMove rfl) fun a ha=>?_;refine gSplit (t:=111) ha rfl (fun hg10=>?_) (fun hg10=>?_)
                  · rw [hg10] at ha
                    have hp10 : z.dir = true:=by simpa using hg10
                    refine gOn ha ?_;refine pY ha (yMove rfl) fun a ha=>?_;refine gOn ha ?_;refine pY ha (yFieldA Tryz.runUnderlying50 rfl Tryz.sizeOf3 rfl rfl) fun a ha=>?_;refine gOn ha ?_;refine pY ha (yLoadB Tryz.isAgg3 hs rfl pk1 rfl) fun a ha=>?_;refine gOn ha ?_;refine pY ha (yFieldA Tryz.runUnderlying50 rfl Tryz.sizeOf3 rfl rfl) fun a ha=>?_;refine gOn ha ?_;refine pY ha (yLoadB Tryz.isAgg3 hs rfl pk1 rfl) fun a ha=>?_;refine gOn ha ?_;refine pC ha (nCall Tryz.call57 rfl) rfl (Within_c (xs:=xs) x.parent x.id (by omega) hs pk2) ?_;rintro v w ⟨rfl,hs⟩ a ha;refine pY ha (yPickF rfl rfl) fun a ha=>?_;refine pZ ?_;refine hK22 _ _ ?_;refine cSplit ha rfl (fun hc118=>?_) (fun hc118=>?_)
                    · refine wp_seq_k fun K23 hK23=>?_;refine wp_region_lit ?_;refine pY ha (yAssign rfl) fun a ha=>?_;refine pZ ?_;refine hK23 _ _ ?_;refine wp_ret ?_;show bodyPost Tryz.prog Tryz.f18 _ .ret _ _;refine ret1 rfl ha rfl ?_
                      (have hbad : goodR xs i = false:=by (
                         cases hgo : goodR xs i with
                         | false=>rfl
                         | true=>
                           obtain ⟨q1,q2,q3,q4⟩:=(goodR_at hx hgy).1 hgo
                           exfalso
                           (rcases q4 with e | ⟨_,_,e⟩
                            · exact hc96 e
                            · rw [e] at hc118; cases hc118))
                       refine ⟨congrArg Value.bool ?_,?_⟩
                       · rw [hsE]; exact (allN_no (i:=i) (n:=xs.length) (by omega) hbad).symm
                       · exact hs.drop.drop.drop)
                    · refine wp_skip ?_;refine hK10 _ _ ?_;refine wp_region_lit ?_;refine pY ha (yMove rfl) fun a ha=>?_;refine pY ha (yAddN rfl rfl ⟨by omega,by omega⟩) fun a ha=>?_;refine pY ha (yAssign rfl) fun a ha=>?_;refine pZ ?_
                      have hgo : goodR xs i = true:=by
                        refine (goodR_at hx hgy).2 ⟨hc81,by omega,by rw [hsa]; omega,?_⟩;exact .inr ⟨hin,by rw [hf]; exact hp10,hc118⟩
                      exact ⟨i + 1,⟨by omega,by simp only [allN,h2,Bool.true_and]; exact hgo,has3 ha rfl (by rw [hsa]; rfl) rfl,by exact hs.drop.drop⟩,by omega⟩
                  · rw [hg10] at ha
                    have hp10 : z.dir = false:=by simpa using hg10
                    refine gOff ha fun a ha=>?_;refine gOff ha fun a ha=>?_;refine gOff ha fun a ha=>?_;refine gOff ha fun a ha=>?_;refine gOff ha fun a ha=>?_;refine gOff ha fun a ha=>?_;refine pY ha (yPickT rfl rfl) fun a ha=>?_;refine pZ ?_;refine hK22 _ _ ?_;refine cTrue ha rfl ?_;refine wp_seq_k fun K24 hK24=>?_;refine wp_region_lit ?_;refine pY ha (yAssign rfl) fun a ha=>?_;refine pZ ?_;refine hK24 _ _ ?_;refine wp_ret ?_;show bodyPost Tryz.prog Tryz.f18 _ .ret _ _;refine ret1 rfl ha rfl ?_
                    (have hbad : goodR xs i = false:=by (
                       cases hgo : goodR xs i with
                       | false=>rfl
                       | true=>
                         obtain ⟨q1,q2,q3,q4⟩:=(goodR_at hx hgy).1 hgo
                         exfalso
                         (rcases q4 with e | ⟨_,e,_⟩
                          · exact hc96 e
                          · rw [hf,hp10] at e; cases e))
                     refine ⟨congrArg Value.bool ?_,?_⟩
                     · rw [hsE]; exact (allN_no (i:=i) (n:=xs.length) (by omega) hbad).symm
                     · exact hs.drop.drop.drop)
                · rw [hg2] at ha;refine gOff ha fun a ha=>?_;refine gOff ha fun a ha=>?_;refine gOff ha fun a ha=>?_;refine gOff ha fun a ha=>?_;refine gOff ha fun a ha=>?_;refine gOff ha fun a ha=>?_;refine pY ha (yPickT rfl rfl) fun a ha=>?_;refine pY ha (yMove rfl) fun a ha=>?_;refine gOff ha fun a ha=>?_;refine gOff ha fun a ha=>?_;refine gOff ha fun a ha=>?_;refine gOff ha fun a ha=>?_;refine gOff ha fun a ha=>?_;refine gOff ha fun a ha=>?_;refine pY ha (yPickT rfl rfl) fun a ha=>?_;refine pZ ?_;refine hK22 _ _ ?_;refine cTrue ha rfl ?_;refine wp_seq_k fun K25 hK25=>?_;refine wp_region_lit ?_;refine pY ha (yAssign rfl) fun a ha=>?_;refine pZ ?_;refine hK25 _ _ ?_;refine wp_ret ?_;show bodyPost Tryz.prog Tryz.f18 _ .ret _ _;refine ret1 rfl ha rfl ?_
                  (have hbad : goodR xs i = false:=by (
                     cases hgo : goodR xs i with
                     | false=>rfl
                     | true=>
                       obtain ⟨q1,q2,q3,q4⟩:=(goodR_at hx hgy).1 hgo
                       exfalso
                       (have:=hk2.resolve_left (fun ⟨j,y,e,_⟩=>by omega); rcases q4 with e | ⟨e,_⟩
                        · exact hc96 e
                        · rw [this.2] at e; cases e))
                   refine ⟨congrArg Value.bool ?_,?_⟩
                   · rw [hsE]; exact (allN_no (i:=i) (n:=xs.length) (by omega) hbad).symm
                   · exact hs.drop.drop)
              · refine wp_skip ?_;refine hK10 _ _ ?_;refine wp_region_lit ?_;refine pY ha (yMove rfl) fun a ha=>?_;refine pY ha (yAddN rfl rfl ⟨by omega,by omega⟩) fun a ha=>?_;refine pY ha (yAssign rfl) fun a ha=>?_;refine pZ ?_
                have hgo : goodR xs i = true:=by
                  refine (goodR_at hx hgy).2 ⟨hc81,by omega,by rw [hsa]; omega,?_⟩;exact .inl (by simpa using hc96)
                exact ⟨i + 1,⟨by omega,by simp only [allN,h2,Bool.true_and]; exact hgo,has3 ha rfl (by rw [hsa]; rfl) rfl,by exact hs.drop⟩,by omega⟩
          · rw [hg2] at ha;refine gOff ha fun a ha=>?_;refine gOff ha fun a ha=>?_;refine pY ha (yPickT rfl rfl) fun a ha=>?_;refine pZ ?_;refine hK18 _ _ ?_;refine cTrue ha rfl ?_;refine wp_seq_k fun K26 hK26=>?_;refine wp_region_lit ?_;refine pY ha (yAssign rfl) fun a ha=>?_;refine pZ ?_;refine hK26 _ _ ?_;refine wp_ret ?_;show bodyPost Tryz.prog Tryz.f18 _ .ret _ _;refine ret1 rfl ha rfl ?_
            (have hbad : goodR xs i = false:=by (
               cases hgo : goodR xs i with
               | false=>rfl
               | true=>
                 obtain ⟨q1,q2,q3,q4⟩:=(goodR_at hx hgy).1 hgo
                 exfalso
                 omega)
             refine ⟨congrArg Value.bool ?_,?_⟩
             · rw [hsE]; exact (allN_no (i:=i) (n:=xs.length) (by omega) hbad).symm
             · exact hs.drop.drop)
      · refine wp_exit ?_;refine hK6 _ _ ?_;refine wp_seq_k fun K27 hK27=>?_;refine wp_region_lit ?_;refine pY ha (yAssign rfl) fun a ha=>?_;refine pZ ?_;refine hK27 _ _ ?_;refine wp_ret ?_;show bodyPost Tryz.prog Tryz.f18 _ .ret _ _;refine ret1 rfl ha rfl ?_
        (obtain rfl : i = xs.length:=by omega
         exact ⟨congrArg Value.bool (by rw [hsE,h2]),hs.drop⟩)
end
end Go.Proofs.YtnlhbkaieoogfaaGreatDoor

set_option linter.unusedVariables false
set_option linter.unusedSimpArgs false
namespace Go.Proofs.YtnlhbkaieoogfaaGreatDoor
open Go.RowKit Go.Lib
theorem bldROpE48_0 {w : World} {l : List (Nat × Value)} {T : TypeId} {x0 : Operand} {v0 : Value} (h0 : ev l x0 = some v0) (o0 : v0.cells = #[v0]:=by rfl) : Yl Tryz.prog w l (.build 48 #[(0,x0)]) T (.agg #[v0,.int .i64 0,.int .i64 0,.string ⟨#[]⟩,.bool false,.slice none 0 0]):=fun ρ o h ho _=>by
  have hf : Instr.fill (fun i=>([(0,1),(1,1),(2,1),(3,1),(4,1),(5,1)] : List (Nat × Nat))[i]?) #[.int .i64 0,.int .i64 0,.int .i64 0,.string ⟨#[]⟩,.bool false,.slice none 0 0] [(0,v0)] = some #[v0,.int .i64 0,.int .i64 0,.string ⟨#[]⟩,.bool false,.slice none 0 0]:=by
    refine (fill_v o0 rfl (by simp)).trans ?_
    simp [Instr.fill]
  unfold execOp; rw [ho]
  simp [h _ _ h0,Instr.build,Tryz.zeroValue48,Tryz.runUnderlying48,Tryz.sizeOf3,Tryz.sizeOf4,Tryz.sizeOf46,Tryz.sizeOf9,agg_cells,hf]
theorem bldROpE48_0_1 {w : World} {l : List (Nat × Value)} {T : TypeId} {x0 x1 : Operand} {v0 : Value} (h0 : ev l x0 = some v0) {v1 : Value} (h1 : ev l x1 = some v1) (o0 : v0.cells = #[v0]:=by rfl) (o1 : v1.cells = #[v1]:=by rfl) : Yl Tryz.prog w l (.build 48 #[(0,x0),(1,x1)]) T (.agg #[v0,v1,.int .i64 0,.string ⟨#[]⟩,.bool false,.slice none 0 0]):=fun ρ o h ho _=>by
  have hf : Instr.fill (fun i=>([(0,1),(1,1),(2,1),(3,1),(4,1),(5,1)] : List (Nat × Nat))[i]?) #[.int .i64 0,.int .i64 0,.int .i64 0,.string ⟨#[]⟩,.bool false,.slice none 0 0] [(0,v0),(1,v1)] = some #[v0,v1,.int .i64 0,.string ⟨#[]⟩,.bool false,.slice none 0 0]:=by
    refine (fill_v o0 rfl (by simp)).trans ?_;refine (fill_v o1 rfl (by simp)).trans ?_
    simp [Instr.fill]
  unfold execOp; rw [ho]
  simp [h _ _ h0,h _ _ h1,Instr.build,Tryz.zeroValue48,Tryz.runUnderlying48,Tryz.sizeOf3,Tryz.sizeOf4,Tryz.sizeOf46,Tryz.sizeOf9,agg_cells,hf]
theorem bldROpE48_0_1_2_3 {w : World} {l : List (Nat × Value)} {T : TypeId} {x0 x1 x2 x3 : Operand} {v0 : Value} (h0 : ev l x0 = some v0) {v1 : Value} (h1 : ev l x1 = some v1) {v2 : Value} (h2 : ev l x2 = some v2) {v3 : Value} (h3 : ev l x3 = some v3) (o0 : v0.cells = #[v0]:=by rfl) (o1 : v1.cells = #[v1]:=by rfl) (o2 : v2.cells = #[v2]:=by rfl) (o3 : v3.cells = #[v3]:=by rfl) : Yl Tryz.prog w l (.build 48 #[(0,x0),(1,x1),(2,x2),(3,x3)]) T (.agg #[v0,v1,v2,v3,.bool false,.slice none 0 0]):=fun ρ o h ho _=>by
  have hf : Instr.fill (fun i=>([(0,1),(1,1),(2,1),(3,1),(4,1),(5,1)] : List (Nat × Nat))[i]?) #[.int .i64 0,.int .i64 0,.int .i64 0,.string ⟨#[]⟩,.bool false,.slice none 0 0] [(0,v0),(1,v1),(2,v2),(3,v3)] = some #[v0,v1,v2,v3,.bool false,.slice none 0 0]:=by
    refine (fill_v o0 rfl (by simp)).trans ?_;refine (fill_v o1 rfl (by simp)).trans ?_;refine (fill_v o2 rfl (by simp)).trans ?_;refine (fill_v o3 rfl (by simp)).trans ?_
    simp [Instr.fill]
  unfold execOp; rw [ho]
  simp [h _ _ h0,h _ _ h1,h _ _ h2,h _ _ h3,Instr.build,Tryz.zeroValue48,Tryz.runUnderlying48,Tryz.sizeOf3,Tryz.sizeOf4,Tryz.sizeOf46,Tryz.sizeOf9,agg_cells,hf]
theorem bldROpE48_0_1_2_3_4 {w : World} {l : List (Nat × Value)} {T : TypeId} {x0 x1 x2 x3 x4 : Operand} {v0 : Value} (h0 : ev l x0 = some v0) {v1 : Value} (h1 : ev l x1 = some v1) {v2 : Value} (h2 : ev l x2 = some v2) {v3 : Value} (h3 : ev l x3 = some v3) {v4 : Value} (h4 : ev l x4 = some v4) (o0 : v0.cells = #[v0]:=by rfl) (o1 : v1.cells = #[v1]:=by rfl) (o2 : v2.cells = #[v2]:=by rfl) (o3 : v3.cells = #[v3]:=by rfl) (o4 : v4.cells = #[v4]:=by rfl) : Yl Tryz.prog w l (.build 48 #[(0,x0),(1,x1),(2,x2),(3,x3),(4,x4)]) T (.agg #[v0,v1,v2,v3,v4,.slice none 0 0]):=fun ρ o h ho _=>by
  have hf : Instr.fill (fun i=>([(0,1),(1,1),(2,1),(3,1),(4,1),(5,1)] : List (Nat × Nat))[i]?) #[.int .i64 0,.int .i64 0,.int .i64 0,.string ⟨#[]⟩,.bool false,.slice none 0 0] [(0,v0),(1,v1),(2,v2),(3,v3),(4,v4)] = some #[v0,v1,v2,v3,v4,.slice none 0 0]:=by
    refine (fill_v o0 rfl (by simp)).trans ?_;refine (fill_v o1 rfl (by simp)).trans ?_;refine (fill_v o2 rfl (by simp)).trans ?_;refine (fill_v o3 rfl (by simp)).trans ?_;refine (fill_v o4 rfl (by simp)).trans ?_
    simp [Instr.fill]
  unfold execOp; rw [ho]
  simp [h _ _ h0,h _ _ h1,h _ _ h2,h _ _ h3,h _ _ h4,Instr.build,Tryz.zeroValue48,Tryz.runUnderlying48,Tryz.sizeOf3,Tryz.sizeOf4,Tryz.sizeOf46,Tryz.sizeOf9,agg_cells,hf]
theorem bldROpE48_0_1_5 {w : World} {l : List (Nat × Value)} {T : TypeId} {x0 x1 x5 : Operand} {v0 : Value} (h0 : ev l x0 = some v0) {v1 : Value} (h1 : ev l x1 = some v1) {v5 : Value} (h5 : ev l x5 = some v5) (o0 : v0.cells = #[v0]:=by rfl) (o1 : v1.cells = #[v1]:=by rfl) (o5 : v5.cells = #[v5]:=by rfl) : Yl Tryz.prog w l (.build 48 #[(0,x0),(1,x1),(5,x5)]) T (.agg #[v0,v1,.int .i64 0,.string ⟨#[]⟩,.bool false,v5]):=fun ρ o h ho _=>by
  have hf : Instr.fill (fun i=>([(0,1),(1,1),(2,1),(3,1),(4,1),(5,1)] : List (Nat × Nat))[i]?) #[.int .i64 0,.int .i64 0,.int .i64 0,.string ⟨#[]⟩,.bool false,.slice none 0 0] [(0,v0),(1,v1),(5,v5)] = some #[v0,v1,.int .i64 0,.string ⟨#[]⟩,.bool false,v5]:=by
    refine (fill_v o0 rfl (by simp)).trans ?_;refine (fill_v o1 rfl (by simp)).trans ?_;refine (fill_v o5 rfl (by simp)).trans ?_
    simp [Instr.fill]
  unfold execOp; rw [ho]
  simp [h _ _ h0,h _ _ h1,h _ _ h5,Instr.build,Tryz.zeroValue48,Tryz.runUnderlying48,Tryz.sizeOf3,Tryz.sizeOf4,Tryz.sizeOf46,Tryz.sizeOf9,agg_cells,hf]
section
variable {W w : World} {cs r r' : List Ch}
theorem RNormal_c {A : Option Addr} {n c : Nat} {xs : List Comp} (hsz : ∀ x ∈ xs,x.text.size≤1000000000) (hs : Sep W w cs) (hk : Pick cs (.rd kComp (.slice A n c) xs) r) :
    Calls P 90 #[.slice A n c] w (Rt fun v w'=>v = .bool (normC xs)∧Sep W w' cs):=by
  obtain ⟨rfl,hl⟩:=hs.rd_shape hk;unfold maxLen at hl;have hs:=hs.cpR hk;refine enter Tryz.func90 Tryz.ntmps90 rfl rfl fun a (ha : Has a 70 [(0,_)])=>?_;refine wp_seq_k fun K1 hK1=>?_;refine wp_region_lit ?_;refine pY ha (yAssign rfl) fun a ha=>?_;refine pZ ?_;refine hK1 _ _ ?_;refine wp_seq_k fun K2 hK2=>?_;refine wp_seq_k fun K3 hK3=>?_;refine wp_region_lit ?_;refine pY ha (yAssign rfl) fun a ha=>?_;refine pZ ?_;refine hK3 _ _ ?_;refine wp_block ?_;refine loopI (ι:=Nat) (fun i a w=>i≤xs.length∧allN (goodC xs) i = true∧Has a 70 [(0,.slice A xs.length c),(3,.int .i64 i)]∧Sep W w (.rd kComp (.slice A xs.length c) xs::cs)) (fun i=>xs.length - i) (0) ?_ ?_
  · exact ⟨Nat.zero_le _,rfl,has2 ha rfl rfl,hs⟩
  · rintro i a w ⟨h1,h2,ha,hs⟩;refine wp_seq_k fun K4 hK4=>?_;refine wp_seq_k fun K5 hK5=>?_;refine wp_region_lit ?_;refine pY ha (yMove rfl) fun a ha=>?_;refine pY ha (yMove rfl) fun a ha=>?_;refine pY ha (yLenS Tryz.runUnderlying46 rfl) fun a ha=>?_;refine pY ha (yLss rfl rfl) fun a ha=>?_;refine pZ ?_;refine hK5 _ _ ?_;refine cDec ha rfl (fun hc8=>?_) (fun hc8=>?_)
    · obtain ⟨x,hx⟩ : ∃ x,xs[i]? = some x:=⟨_,List.getElem?_eq_getElem (by omega)⟩;obtain ⟨y,hy⟩ : ∃ y,xs[i - 1]? = some y:=⟨_,List.getElem?_eq_getElem (by omega)⟩
      have hsx:=hsz x (List.mem_of_getElem? hx)
      have hgood : goodC xs i = (sndC x && (decide (i = 0) || !(decide (y.kind = x.kind) || decide (y.kind = 3) && decide (x.kind = 2)))):=by
        unfold goodC;rw [List.getD_eq_getElem?_getD,List.getD_eq_getElem?_getD,hx,hy]; rfl
      obtain ⟨b0,off,rfl,hs⟩:=hs.rd_comp .here hx;obtain ⟨b1,off1,e1,hs⟩:=hs.rd_comp (.there .here) hy;simp only [Option.some.injEq,Addr.mk.injEq,and_true] at e1;obtain ⟨rfl,rfl⟩:=e1;rw [show i - 1 = ((i : Int) - 1).toNat by omega] at hs;refine wp_skip ?_;refine hK4 _ _ ?_;refine wp_seq_k fun K6 hK6=>?_;refine wp_block ?_;refine wp_seq_k fun K7 hK7=>?_;refine wp_region_lit ?_;refine pY ha (yMove rfl) fun a ha=>?_;refine pY ha (yMove rfl) fun a ha=>?_;refine pY ha (yIndexA Tryz.runUnderlying46 Tryz.sizeOf45 rfl rfl (by omega) (by omega)) fun a ha=>?_;refine pY ha (yLoadRA Tryz.isAgg45 Tryz.sizeOf45 hs rfl pk1 rfl) fun a ha=>?_;refine pAlloc (zs:=[.int .i64 0,.int .i64 0,.string ⟨#[]⟩]) ha Tryz.zeroValue45 rfl hs rfl fun b w hs a ha=>?_;refine pStoreA ha Tryz.sizeOf45 hs rfl rfl pk0 rfl rfl rfl fun w hs=>?_;refine pZ ?_;refine hK7 _ _ ?_;refine wp_seq_k fun K8 hK8=>?_
      have hJ8 : ∀ a w,(sndC x = true∧(x.kind = 2→i = 0∨y.kind ≠ 3)∧Has a 70 [(0,.slice (some ⟨b0,off,none⟩) xs.length c),(3,.int .i64 i),(4,.pointer (some ⟨b,0,none⟩))]∧Sep W w (.blk b 45 [.int .i64 x.kind,.int .i64 x.n,.string x.text]::.at b0 (off + ((i : Int) - 1).toNat * 3) [.int .i64 y.kind,.int .i64 y.n,.string y.text]::.at b0 (off + i * 3) [.int .i64 x.kind,.int .i64 x.n,.string x.text]::.rd kComp (.slice (some ⟨b0,off,none⟩) xs.length c) xs::cs))→K8 a w:=by
        rintro a w ⟨hq1,hq2,ha,hs⟩;refine hK8 _ _ ?_;refine wp_seq_k fun K9 hK9=>?_;refine dStart (fun w=>Sep W w _) [] 8191 8191 (by kernel_rfl) (by kernel_rfl) rfl (hs.drew) ?_
        have hs:=Sep.drew hs
        generalize World.drew _ = w at hs ⊢;refine dP 0 1 rfl ha (fun _=>yMove rfl) fun a ha=>?_;refine dP 1 3 rfl ha (fun _=>yGtr rfl rfl) fun a ha=>?_;refine dP 2 7 rfl ha (fun _=>yMove rfl) fun a ha=>?_;refine gDec (t:=59) ha rfl (fun hg2 hp2=>?_) (fun hg2 hp2=>?_)
        · rw [hg2] at ha;refine dOff 3 15 rfl ha fun a ha=>?_;refine dOff 4 31 rfl ha fun a ha=>?_;refine dOff 5 63 rfl ha fun a ha=>?_;refine dOff 6 127 rfl ha fun a ha=>?_;refine dOff 7 255 rfl ha fun a ha=>?_;refine dOff 8 511 rfl ha fun a ha=>?_;refine dOff 9 1023 rfl ha fun a ha=>?_;refine dOff 10 2047 rfl ha fun a ha=>?_;refine dOff 11 4095 rfl ha fun a ha=>?_;refine dP 12 8191 rfl ha (fun _=>yPickF rfl rfl) fun a ha=>?_;refine dZ (by kernel_rfl) ?_;refine hK9 _ _ ?_;refine cFalse ha rfl ?_;refine wp_skip ?_;refine hK6 _ _ ?_;refine wp_region_lit ?_;refine pY ha (yMove rfl) fun a ha=>?_;refine pY ha (yAddN rfl rfl ⟨by omega,by omega⟩) fun a ha=>?_;refine pY ha (yAssign rfl) fun a ha=>?_;refine pZ ?_;refine ⟨i + 1,⟨by omega,?_,has2 ha rfl rfl,hs.drop.drop.drop⟩,by omega⟩;simp only [allN,h2,Bool.true_and,hgood,hq1]
          (rw [decide_eq_true (show i = 0 by omega)]; rfl)
        · rw [hg2] at ha;refine dP 3 15 rfl ha (fun _=>yMove rfl) fun a ha=>?_;refine dP 4 31 rfl ha (fun _=>yMove rfl) fun a ha=>?_;refine dP 5 63 rfl ha (fun _=>ySubN rfl rfl ⟨by omega,by omega⟩) fun a ha=>?_;refine dP 6 127 rfl ha (fun _=>yIndexA Tryz.runUnderlying46 Tryz.sizeOf45 rfl rfl (by omega) (by omega)) fun a ha=>?_;refine dP 7 255 rfl ha (fun _=>yFieldA Tryz.runUnderlying45 rfl Tryz.sizeOf3 rfl rfl) fun a ha=>?_;refine dT 8 511 rfl ha (fun _ hs=>yLoadR Tryz.isAgg3 hs rfl pk1 rfl) (hs) fun a ha=>?_;refine dP 9 1023 rfl ha (fun _=>yFieldA Tryz.runUnderlying45 rfl Tryz.sizeOf3 rfl rfl) fun a ha=>?_;refine dT 10 2047 rfl ha (fun _ hs=>yLoadB Tryz.isAgg3 hs rfl pk0 rfl) (hs) fun a ha=>?_;refine dP 11 4095 rfl ha (fun _=>yEql rfl rfl) fun a ha=>?_;refine dP 12 8191 rfl ha (fun _=>yPickT rfl rfl) fun a ha=>?_;refine dZ (by kernel_rfl) ?_;refine hK9 _ _ ?_;refine cDec ha rfl (fun hc69=>?_) (fun hc69=>?_)
          · refine wp_seq_k fun K10 hK10=>?_;refine wp_region_lit ?_;refine pY ha (yAssign rfl) fun a ha=>?_;refine pZ ?_;refine hK10 _ _ ?_;refine wp_ret ?_;show bodyPost Tryz.prog Tryz.f90 _ .ret _ _;refine ret1 rfl ha rfl ?_
            (refine ⟨congrArg Value.bool (allN_no (i:=i) (n:=xs.length) (by omega) ?_).symm,hs.drop.drop.drop.drop⟩
             rw [hgood]
             (rw [decide_eq_false (show ¬ i = 0 by omega),decide_eq_true hc69]; simp; done))
          · refine wp_skip ?_;refine hK6 _ _ ?_;refine wp_region_lit ?_;refine pY ha (yMove rfl) fun a ha=>?_;refine pY ha (yAddN rfl rfl ⟨by omega,by omega⟩) fun a ha=>?_;refine pY ha (yAssign rfl) fun a ha=>?_;refine pZ ?_;refine ⟨i + 1,⟨by omega,?_,has2 ha rfl rfl,hs.drop.drop.drop⟩,by omega⟩;simp only [allN,h2,Bool.true_and,hgood,hq1]
            (rw [decide_eq_false hc69,Bool.false_or,Bool.or_eq_true,decide_eq_true_eq,Bool.not_eq_true',Bool.and_eq_false_iff,decide_eq_false_iff_not,decide_eq_false_iff_not]; omega)
      refine wp_seq_k fun K11 hK11=>?_;refine wp_region_lit ?_;refine pY ha (yFieldA Tryz.runUnderlying45 rfl Tryz.sizeOf3 rfl rfl) fun a ha=>?_;refine pY ha (yLoadB Tryz.isAgg3 hs rfl pk0 rfl) fun a ha=>?_;refine pZ ?_;refine hK11 _ _ ?_;refine wp_block ?_;refine wp_seq_k fun K12 hK12=>?_
      have hJ12 : ∀ a w,(Has a 70 [(17,.bool (decide (x.kind = 1∨x.kind = 3))),(16,.int .i64 x.kind),(0,.slice (some ⟨b0,off,none⟩) xs.length c),(3,.int .i64 i),(4,.pointer (some ⟨b,0,none⟩))]∧Sep W w (.blk b 45 [.int .i64 x.kind,.int .i64 x.n,.string x.text]::.at b0 (off + ((i : Int) - 1).toNat * 3) [.int .i64 y.kind,.int .i64 y.n,.string y.text]::.at b0 (off + i * 3) [.int .i64 x.kind,.int .i64 x.n,.string x.text]::.rd kComp (.slice (some ⟨b0,off,none⟩) xs.length c) xs::cs))→K12 a w:=by
        rintro a w ⟨ha,hs⟩;refine hK12 _ _ ?_;refine cDec ha rfl (fun hc17=>?_) (fun hc17=>?_)
        · refine wp_seq_k fun K13 hK13=>?_;refine wp_region_lit ?_;refine pY ha (yFieldA Tryz.runUnderlying45 rfl Tryz.sizeOf3 rfl rfl) fun a ha=>?_;refine pY ha (yLoadB Tryz.isAgg3 hs rfl pk0 rfl) fun a ha=>?_;refine pY ha (yLss rfl rfl) fun a ha=>?_;refine pY ha (yMove rfl) fun a ha=>?_;refine gDec (t:=23) ha rfl (fun hg3 hp3=>?_) (fun hg3 hp3=>?_)
          · rw [hg3] at ha;refine gOn ha ?_;refine pY ha (yFieldA Tryz.runUnderlying45 rfl Tryz.sizeOf9 rfl rfl) fun a ha=>?_;refine gOn ha ?_;refine pY ha (yLoadB Tryz.isAgg9 hs rfl pk0 rfl) fun a ha=>?_;refine gOn ha ?_;refine pY ha (yStrNeq rfl rfl) fun a ha=>?_;refine pY ha (yPickF rfl rfl) fun a ha=>?_;refine pZ ?_;refine hK13 _ _ ?_;refine cNDec ha rfl (fun hc27=>?_) (fun hc27=>?_)
            · refine wp_seq_k fun K14 hK14=>?_;refine wp_region_lit ?_;refine pY ha (yAssign rfl) fun a ha=>?_;refine pZ ?_;refine hK14 _ _ ?_;refine wp_ret ?_;show bodyPost Tryz.prog Tryz.f90 _ .ret _ _;refine ret1 rfl ha rfl ?_
              (refine ⟨congrArg Value.bool (allN_no (i:=i) (n:=xs.length) (by omega) ?_).symm,hs.drop.drop.drop.drop⟩
               rw [hgood]
               (rw [sndC_13 hc17,decide_eq_false (show ¬ x.text = emp from hc27),Bool.and_false]; rfl))
            · refine wp_skip ?_;refine hJ8 _ _ ?_;exact ⟨by rw [sndC_13 hc17,decide_eq_true (show x.n > 0 by omega),decide_eq_true (show x.text = emp from hc27)]; rfl,fun e=>by omega,has3 ha rfl rfl rfl,hs⟩
          · rw [hg3] at ha;refine gOff ha fun a ha=>?_;refine gOff ha fun a ha=>?_;refine gOff ha fun a ha=>?_;refine pY ha (yPickT rfl rfl) fun a ha=>?_;refine pZ ?_;refine hK13 _ _ ?_;refine cTrue ha rfl ?_;refine wp_seq_k fun K15 hK15=>?_;refine wp_region_lit ?_;refine pY ha (yAssign rfl) fun a ha=>?_;refine pZ ?_;refine hK15 _ _ ?_;refine wp_ret ?_;show bodyPost Tryz.prog Tryz.f90 _ .ret _ _;refine ret1 rfl ha rfl ?_
            (refine ⟨congrArg Value.bool (allN_no (i:=i) (n:=xs.length) (by omega) ?_).symm,hs.drop.drop.drop.drop⟩
             rw [hgood]
             (rw [sndC_13 hc17,decide_eq_false (show ¬ x.n > 0 by omega)]; rfl))
        · refine wp_seq_k fun K16 hK16=>?_;refine wp_region_lit ?_;refine pY ha (yEql rfl rfl) fun a ha=>?_;refine pY ha (yAssign rfl) fun a ha=>?_;refine pZ ?_;refine hK16 _ _ ?_;refine cDec ha rfl (fun hc28=>?_) (fun hc28=>?_)
          · refine wp_seq_k fun K17 hK17=>?_;refine wp_region_lit ?_;refine pY ha (yFieldA Tryz.runUnderlying45 rfl Tryz.sizeOf3 rfl rfl) fun a ha=>?_;refine pY ha (yLoadB Tryz.isAgg3 hs rfl pk0 rfl) fun a ha=>?_;refine pY ha (yNeq rfl rfl) fun a ha=>?_;refine pY ha (yMove rfl) fun a ha=>?_;refine gSplit (t:=33) ha rfl (fun hg3=>?_) (fun hg3=>?_)
            · rw [hg3] at ha
              have hp3 : x.n = 0:=by simpa using hg3
              refine gOn ha ?_;refine pY ha (yFieldA Tryz.runUnderlying45 rfl Tryz.sizeOf9 rfl rfl) fun a ha=>?_;refine gOn ha ?_;refine pY ha (yLoadB Tryz.isAgg9 hs rfl pk0 rfl) fun a ha=>?_;refine gOn ha ?_;refine pY ha (yStrEql rfl rfl) fun a ha=>?_;refine pY ha (yPickF rfl rfl) fun a ha=>?_;refine pY ha (yMove rfl) fun a ha=>?_;refine gSplit (t:=38) ha rfl (fun hg8=>?_) (fun hg8=>?_)
              · rw [hg8] at ha
                have hp8:=of_decide_eq_false hg8
                refine gOn ha ?_;refine pY ha (yFieldA Tryz.runUnderlying45 rfl Tryz.sizeOf9 rfl rfl) fun a ha=>?_;refine gOn ha ?_;refine pY ha (yLoadB Tryz.isAgg9 hs rfl pk0 rfl) fun a ha=>?_;refine gOn ha ?_;refine pC ha (nCall Tryz.call55 rfl) rfl (RValid_c x.text (by omega) hs) ?_;rintro v w ⟨rfl,hs⟩ a ha;refine gOn ha ?_;refine pY ha (yNot rfl) fun a ha=>?_;refine pY ha (yPickF rfl rfl) fun a ha=>?_;refine pY ha (yMove rfl) fun a ha=>?_;refine gSplit (t:=44) ha rfl (fun hg14=>?_) (fun hg14=>?_)
                · rw [hg14] at ha
                  have hp14 : okText x.text.data.toList = true:=by simpa using hg14
                  refine gOn ha ?_;refine pY ha (yMove rfl) fun a ha=>?_;refine gOn ha ?_;refine pY ha (yGtr rfl rfl) fun a ha=>?_;refine gOn ha ?_;refine pY ha (yMove rfl) fun a ha=>?_;refine gDec (t:=47) ha rfl (fun hg17 hp17=>?_) (fun hg17 hp17=>?_)
                  · rw [hg17] at ha;refine gOff ha fun a ha=>?_;refine gOff ha fun a ha=>?_;refine gOff ha fun a ha=>?_;refine gOff ha fun a ha=>?_;refine gOff ha fun a ha=>?_;refine gOff ha fun a ha=>?_;refine gOff ha fun a ha=>?_;refine gOn ha ?_;refine pY ha (yPickF rfl rfl) fun a ha=>?_;refine pY ha (yPickF rfl rfl) fun a ha=>?_;refine pZ ?_;refine hK17 _ _ ?_;refine cFalse ha rfl ?_;refine wp_skip ?_;refine hJ8 _ _ ?_;exact ⟨by rw [sndC_2 hc28,decide_eq_true hp3,decide_eq_false (show ¬ x.text = emp from hp8),hp14]; rfl,fun e=>by omega,has3 ha rfl rfl rfl,hs⟩
                  · rw [hg17] at ha;refine gOn ha ?_;refine pY ha (yMove rfl) fun a ha=>?_;refine gOn ha ?_;refine pY ha (yMove rfl) fun a ha=>?_;refine gOn ha ?_;refine pY ha (ySubN rfl rfl ⟨by omega,by omega⟩) fun a ha=>?_;refine gOn ha ?_;refine pY ha (yIndexA Tryz.runUnderlying46 Tryz.sizeOf45 rfl rfl (by omega) (by omega)) fun a ha=>?_;refine gOn ha ?_;refine pY ha (yFieldA Tryz.runUnderlying45 rfl Tryz.sizeOf3 rfl rfl) fun a ha=>?_;refine gOn ha ?_;refine pY ha (yLoadR Tryz.isAgg3 hs rfl pk1 rfl) fun a ha=>?_;refine gOn ha ?_;refine pY ha (yEql rfl rfl) fun a ha=>?_;refine gOn ha ?_;refine pY ha (yPickT rfl rfl) fun a ha=>?_;refine pY ha (yPickF rfl rfl) fun a ha=>?_;refine pZ ?_;refine hK17 _ _ ?_;refine cDec ha rfl (fun hc56=>?_) (fun hc56=>?_)
                    · refine wp_seq_k fun K18 hK18=>?_;refine wp_region_lit ?_;refine pY ha (yAssign rfl) fun a ha=>?_;refine pZ ?_;refine hK18 _ _ ?_;refine wp_ret ?_;show bodyPost Tryz.prog Tryz.f90 _ .ret _ _;refine ret1 rfl ha rfl ?_
                      (refine ⟨congrArg Value.bool (allN_no (i:=i) (n:=xs.length) (by omega) ?_).symm,hs.drop.drop.drop.drop⟩
                       rw [hgood]
                       (rw [decide_eq_false (show ¬ i = 0 by omega),decide_eq_true hc28,decide_eq_true hc56]; simp; done))
                    · refine wp_skip ?_;refine hJ8 _ _ ?_;exact ⟨by rw [sndC_2 hc28,decide_eq_true hp3,decide_eq_false (show ¬ x.text = emp from hp8),hp14]; rfl,fun e=>by omega,has3 ha rfl rfl rfl,hs⟩
                · rw [hg14] at ha
                  have hp14 : okText x.text.data.toList = false:=by simpa using hg14
                  refine gOff ha fun a ha=>?_;refine gOff ha fun a ha=>?_;refine gOff ha fun a ha=>?_;refine gOffU ha fun a ha=>?_;refine gOffU ha fun a ha=>?_;refine gOffU ha fun a ha=>?_;refine gOffU ha fun a ha=>?_;refine gOffU ha fun a ha=>?_;refine gOffU ha fun a ha=>?_;refine gOffU ha fun a ha=>?_;refine gOff ha fun a ha=>?_;refine pY ha (yPickT rfl rfl) fun a ha=>?_;refine pZ ?_;refine hK17 _ _ ?_;refine cTrue ha rfl ?_;refine wp_seq_k fun K19 hK19=>?_;refine wp_region_lit ?_;refine pY ha (yAssign rfl) fun a ha=>?_;refine pZ ?_;refine hK19 _ _ ?_;refine wp_ret ?_;show bodyPost Tryz.prog Tryz.f90 _ .ret _ _;refine ret1 rfl ha rfl ?_
                  (refine ⟨congrArg Value.bool (allN_no (i:=i) (n:=xs.length) (by omega) ?_).symm,hs.drop.drop.drop.drop⟩
                   rw [hgood]
                   (rw [sndC_2 hc28,hp14,Bool.and_false]; rfl))
              · rw [hg8] at ha
                have hp8:=of_decide_eq_true hg8
                refine gOff ha fun a ha=>?_;refine gOff ha fun a ha=>?_;refine gOff ha fun a ha=>?_;refine gOff ha fun a ha=>?_;refine pY ha (yPickT rfl rfl) fun a ha=>?_;refine pY ha (yMove rfl) fun a ha=>?_;refine gOff ha fun a ha=>?_;refine gOff ha fun a ha=>?_;refine gOff ha fun a ha=>?_;refine gOffU ha fun a ha=>?_;refine gOffU ha fun a ha=>?_;refine gOffU ha fun a ha=>?_;refine gOffU ha fun a ha=>?_;refine gOffU ha fun a ha=>?_;refine gOffU ha fun a ha=>?_;refine gOffU ha fun a ha=>?_;refine gOff ha fun a ha=>?_;refine pY ha (yPickT rfl rfl) fun a ha=>?_;refine pZ ?_;refine hK17 _ _ ?_;refine cTrue ha rfl ?_;refine wp_seq_k fun K20 hK20=>?_;refine wp_region_lit ?_;refine pY ha (yAssign rfl) fun a ha=>?_;refine pZ ?_;refine hK20 _ _ ?_;refine wp_ret ?_;show bodyPost Tryz.prog Tryz.f90 _ .ret _ _;refine ret1 rfl ha rfl ?_
                (refine ⟨congrArg Value.bool (allN_no (i:=i) (n:=xs.length) (by omega) ?_).symm,hs.drop.drop.drop.drop⟩
                 rw [hgood]
                 (rw [sndC_2 hc28,decide_eq_true (show x.text = emp from hp8),Bool.not_true,Bool.and_false]; rfl))
            · rw [hg3] at ha
              have hp3 : ¬ x.n = 0:=by simpa using hg3
              refine gOff ha fun a ha=>?_;refine gOff ha fun a ha=>?_;refine gOff ha fun a ha=>?_;refine pY ha (yPickT rfl rfl) fun a ha=>?_;refine pY ha (yMove rfl) fun a ha=>?_;refine gOff ha fun a ha=>?_;refine gOff ha fun a ha=>?_;refine gOff ha fun a ha=>?_;refine gOff ha fun a ha=>?_;refine pY ha (yPickT rfl rfl) fun a ha=>?_;refine pY ha (yMove rfl) fun a ha=>?_;refine gOff ha fun a ha=>?_;refine gOff ha fun a ha=>?_;refine gOff ha fun a ha=>?_;refine gOffU ha fun a ha=>?_;refine gOffU ha fun a ha=>?_;refine gOffU ha fun a ha=>?_;refine gOffU ha fun a ha=>?_;refine gOffU ha fun a ha=>?_;refine gOffU ha fun a ha=>?_;refine gOffU ha fun a ha=>?_;refine gOff ha fun a ha=>?_;refine pY ha (yPickT rfl rfl) fun a ha=>?_;refine pZ ?_;refine hK17 _ _ ?_;refine cTrue ha rfl ?_;refine wp_seq_k fun K21 hK21=>?_;refine wp_region_lit ?_;refine pY ha (yAssign rfl) fun a ha=>?_;refine pZ ?_;refine hK21 _ _ ?_;refine wp_ret ?_;show bodyPost Tryz.prog Tryz.f90 _ .ret _ _;refine ret1 rfl ha rfl ?_
              (refine ⟨congrArg Value.bool (allN_no (i:=i) (n:=xs.length) (by omega) ?_).symm,hs.drop.drop.drop.drop⟩
               rw [hgood]
               (rw [sndC_2 hc28,decide_eq_false hp3]; rfl))
          · refine wp_seq_k fun K22 hK22=>?_;refine wp_region_lit ?_;refine pY ha (yAssign rfl) fun a ha=>?_;refine pZ ?_;refine hK22 _ _ ?_;refine wp_ret ?_;show bodyPost Tryz.prog Tryz.f90 _ .ret _ _;refine ret1 rfl ha rfl ?_
            (refine ⟨congrArg Value.bool (allN_no (i:=i) (n:=xs.length) (by omega) ?_).symm,hs.drop.drop.drop.drop⟩
             rw [hgood]
             (rw [sndC_no hc17 hc28]; rfl))
      refine wp_seq_k fun K23 hK23=>?_;refine wp_region_lit ?_;refine pY ha (yEql rfl rfl) fun a ha=>?_;refine pY ha (yAssign rfl) fun a ha=>?_;refine pZ ?_;refine hK23 _ _ ?_;refine cDec ha rfl (fun hc17=>?_) (fun hc17=>?_)
      · refine wp_skip ?_;refine hJ12 _ _ ?_;exact ⟨has5 ha (bT (by omega)) rfl rfl rfl rfl,hs⟩
      · refine wp_region_lit ?_;refine pY ha (yEql rfl rfl) fun a ha=>?_;refine pY ha (yAssign rfl) fun a ha=>?_;refine pZ ?_;refine hJ12 _ _ ?_;exact ⟨has5 ha (bT (by omega)) rfl rfl rfl rfl,hs⟩
    · refine wp_exit ?_;refine hK2 _ _ ?_;refine wp_seq_k fun K24 hK24=>?_;refine wp_region_lit ?_;refine pY ha (yAssign rfl) fun a ha=>?_;refine pZ ?_;refine hK24 _ _ ?_;refine wp_ret ?_;show bodyPost Tryz.prog Tryz.f90 _ .ret _ _;refine ret1 rfl ha rfl ?_
      (obtain rfl : i = xs.length:=by omega
       exact ⟨congrArg Value.bool h2.symm,hs.drop⟩)
theorem ROpCheck_c {A : Option Addr} {n c : Nat} {xs : List Comp} (hsz : ∀ x ∈ xs,mC x) (hs : Sep W w cs) (hk : Pick cs (.rd kComp (.slice A n c) xs) r) :
    Calls P 52 #[.slice A n c] w (Rt fun v w'=>v = .int .i64 (opE xs)∧Sep W w' cs):=by
  obtain ⟨rfl,hl⟩:=hs.rd_shape hk;unfold maxLen at hl;refine enter Tryz.func52 Tryz.ntmps52 rfl rfl fun a (ha : Has a 20 [(0,_)])=>?_;refine wp_seq_k fun K1 hK1=>?_;refine wp_region_lit ?_;refine pY ha (yAssign rfl) fun a ha=>?_;refine pZ ?_;refine hK1 _ _ ?_;refine wp_seq_k fun K2 hK2=>?_;refine wp_block ?_;refine wp_seq_k fun K3 hK3=>?_;refine wp_region_lit ?_;refine pY ha (yMove rfl) fun a ha=>?_;refine pY ha (yLenS Tryz.runUnderlying46 rfl) fun a ha=>?_;refine pY ha (yGtr rfl rfl) fun a ha=>?_;refine pY ha (yAssign rfl) fun a ha=>?_;refine pZ ?_;refine hK3 _ _ ?_;refine cDec ha rfl (fun hc3=>?_) (fun hc3=>?_)
  · refine wp_seq_k fun K4 hK4=>?_;refine wp_region_lit ?_;refine pY ha (yAssign rfl) fun a ha=>?_;refine pZ ?_;refine hK4 _ _ ?_;refine wp_ret ?_;show bodyPost Tryz.prog Tryz.f52 _ .ret _ _;refine ret1 rfl ha rfl ?_;refine ⟨congrArg (Value.int .i64) ?_,hs⟩;unfold opE
    (rw [if_pos (by omega)])
  · refine wp_seq_k fun K5 hK5=>?_;refine wp_region_lit ?_;refine pY ha (yMove rfl) fun a ha=>?_;refine pC ha (nCall Tryz.call90 rfl) rfl (RNormal_c (xs:=xs) (fun x hx=>(hsz x hx).2) hs hk) ?_;rintro v w ⟨rfl,hs⟩ a ha;refine pY ha (yNot rfl) fun a ha=>?_;refine pY ha (yAssign rfl) fun a ha=>?_;refine pZ ?_;refine hK5 _ _ ?_;refine cSplit ha rfl (fun hc7=>?_) (fun hc7=>?_)
    · refine wp_seq_k fun K6 hK6=>?_;refine wp_region_lit ?_;refine pY ha (yAssign rfl) fun a ha=>?_;refine pZ ?_;refine hK6 _ _ ?_;refine wp_ret ?_;show bodyPost Tryz.prog Tryz.f52 _ .ret _ _;refine ret1 rfl ha rfl ?_;refine ⟨congrArg (Value.int .i64) ?_,hs⟩;unfold opE
      (rw [if_neg (by omega),if_pos (by simpa using hc7)])
    · have hn : normC xs = true:=by simpa using hc7
      have hO : ∀ x ∈ xs,x.text.size≤1000000000∧(x.kind = 2→okText x.text.data.toList = true):=fun x hx=>by
        obtain ⟨i,hi,rfl⟩:=List.mem_iff_getElem.1 hx
        have hg:=allN_iff.1 hn i hi
        unfold goodC at hg;rw [Bool.and_eq_true,List.getD_eq_getElem?_getD,List.getElem?_eq_getElem hi,Option.getD_some] at hg;refine ⟨(hsz _ hx).2,fun hk=>?_⟩
        rcases snd_ok hg.1 with ⟨_,e⟩ | ⟨e,_⟩
        · exact e
        · exact absurd hk e
      refine wp_seq_k fun K7 hK7=>?_;refine wp_region_lit ?_;refine pY ha (yMove rfl) fun a ha=>?_;refine pC ha (nCall Tryz.call91 rfl) rfl (RBase_c (xs:=xs) hs hk) ?_;rintro v w ⟨rfl,hs⟩ a ha;refine pY ha (yGtr rfl rfl) fun a ha=>?_;refine pY ha (yMove rfl) fun a ha=>?_;refine gDec (t:=15) ha rfl (fun hg3 hp3=>?_) (fun hg3 hp3=>?_)
      · rw [hg3] at ha;refine gOn ha ?_;refine pY ha (yMove rfl) fun a ha=>?_;refine gOn ha ?_;refine pC ha (nCall Tryz.call92 rfl) rfl (ROut_c (xs:=xs) hO hs hk) ?_;rintro v w ⟨rfl,hs⟩ a ha;refine gOn ha ?_;refine pY ha (yGtr rfl rfl) fun a ha=>?_;refine pY ha (yPickF rfl rfl) fun a ha=>?_;refine pY ha (yAssign rfl) fun a ha=>?_;refine pZ ?_;refine hK7 _ _ ?_;refine cDec ha rfl (fun hc11=>?_) (fun hc11=>?_)
        · refine wp_seq_k fun K8 hK8=>?_;refine wp_region_lit ?_;refine pY ha (yAssign rfl) fun a ha=>?_;refine pZ ?_;refine hK8 _ _ ?_;refine wp_ret ?_;show bodyPost Tryz.prog Tryz.f52 _ .ret _ _;refine ret1 rfl ha rfl ?_;refine ⟨congrArg (Value.int .i64) ?_,hs⟩;unfold opE
          (rw [if_neg (by omega),if_neg (by rw [hn]; decide),if_pos (by omega)])
        · refine wp_skip ?_;refine hK2 _ _ ?_;refine wp_seq_k fun K9 hK9=>?_;refine wp_region_lit ?_;refine pY ha (yAssign rfl) fun a ha=>?_;refine pZ ?_;refine hK9 _ _ ?_;refine wp_ret ?_;show bodyPost Tryz.prog Tryz.f52 _ .ret _ _;refine ret1 rfl ha rfl ?_;refine ⟨congrArg (Value.int .i64) ?_,hs⟩;unfold opE
          (rw [if_neg (by omega),if_neg (by rw [hn]; decide),if_neg (by omega)])
      · rw [hg3] at ha;refine gOff ha fun a ha=>?_;refine gOff ha fun a ha=>?_;refine gOff ha fun a ha=>?_;refine pY ha (yPickT rfl rfl) fun a ha=>?_;refine pY ha (yAssign rfl) fun a ha=>?_;refine pZ ?_;refine hK7 _ _ ?_;refine cTrue ha rfl ?_;refine wp_seq_k fun K10 hK10=>?_;refine wp_region_lit ?_;refine pY ha (yAssign rfl) fun a ha=>?_;refine pZ ?_;refine hK10 _ _ ?_;refine wp_ret ?_;show bodyPost Tryz.prog Tryz.f52 _ .ret _ _;refine ret1 rfl ha rfl ?_;refine ⟨congrArg (Value.int .i64) ?_,hs⟩;unfold opE
        (rw [if_neg (by omega),if_neg (by rw [hn]; decide),if_pos (by omega)])
theorem RPlainA_c {A : Option Addr} {c : Nat} {x : Actn} (hs : Sep W w cs) (hk : Pick cs (.rd kComp (.slice A x.ops.length c) x.ops) r) :
    Calls P 50 #[.agg [.int .i64 x.kind,.int .i64 x.id,.int .i64 x.parent,.string x.name,.bool x.dir,.slice A x.ops.length c].toArray] w (Rt fun v w'=>∃ A' c',v = .agg [.int .i64 (plainA x).kind,.int .i64 (plainA x).id,.int .i64 (plainA x).parent,.string (plainA x).name,.bool (plainA x).dir,.slice A' (plainA x).ops.length c'].toArray∧Sep W w' (.rd kComp (.slice A' (plainA x).ops.length c') (plainA x).ops::cs)):=by
  have hs:=hs.cpR hk;refine enter Tryz.func50 Tryz.ntmps50 rfl rfl fun a (ha : Has a 48 [(0,_)])=>?_;refine wp_seq_k fun K1 hK1=>?_;refine wp_region_lit ?_;refine pBox (es:=_) ha rfl rfl hs rfl fun b1 w hs a ha=>?_;refine pAlloc (zs:=[.int .i64 0,.int .i64 0,.int .i64 0,.string ⟨#[]⟩,.bool false,.slice none 0 0]) ha Tryz.zeroValue48 rfl hs rfl fun b2 w hs a ha=>?_;refine pZ ?_;refine hK1 _ _ ?_;refine wp_seq_k fun K2 hK2=>?_;refine wp_seq_k fun K3 hK3=>?_;refine wp_region_lit ?_;refine pY ha (yFieldA Tryz.runUnderlying48 rfl Tryz.sizeOf3 rfl rfl) fun a ha=>?_;refine pY ha (yLoadB Tryz.isAgg3 hs rfl pk1 rfl) fun a ha=>?_;refine pZ ?_;refine hK3 _ _ ?_;refine wp_block ?_;refine wp_seq_k fun K4 hK4=>?_;refine wp_region_lit ?_;refine pY ha (yEql rfl rfl) fun a ha=>?_;refine pY ha (yAssign rfl) fun a ha=>?_;refine pZ ?_;refine hK4 _ _ ?_;refine cDec ha rfl (fun hc5=>?_) (fun hc5=>?_)
  · refine wp_seq_k fun K5 hK5=>?_;refine wp_region_lit ?_;refine pY ha (yFieldA Tryz.runUnderlying48 rfl Tryz.sizeOf3 rfl rfl) fun a ha=>?_;refine pY ha (yLoadB Tryz.isAgg3 hs rfl pk1 rfl) fun a ha=>?_;refine pY ha (yFieldA Tryz.runUnderlying48 rfl Tryz.sizeOf3 rfl rfl) fun a ha=>?_;refine pY ha (yLoadB Tryz.isAgg3 hs rfl pk1 rfl) fun a ha=>?_;refine pY ha (yFieldA Tryz.runUnderlying48 rfl Tryz.sizeOf3 rfl rfl) fun a ha=>?_;refine pY ha (yLoadB Tryz.isAgg3 hs rfl pk1 rfl) fun a ha=>?_;refine pY ha (yFieldA Tryz.runUnderlying48 rfl Tryz.sizeOf9 rfl rfl) fun a ha=>?_;refine pY ha (yLoadB Tryz.isAgg9 hs rfl pk1 rfl) fun a ha=>?_;refine pY ha (yFieldA Tryz.runUnderlying48 rfl Tryz.sizeOf4 rfl rfl) fun a ha=>?_;refine pY ha (yLoadB Tryz.isAgg4 hs rfl pk1 rfl) fun a ha=>?_;refine pY ha (bldROpE48_0_1_2_3_4 rfl rfl rfl rfl rfl) fun a ha=>?_;refine pStoreA ha Tryz.sizeOf48 hs rfl rfl pk0 rfl rfl rfl fun w hs=>?_;refine pZ ?_;refine hK5 _ _ ?_;refine wp_ret ?_;show bodyPost Tryz.prog Tryz.f50 _ .ret _ _;refine retC rfl ha rfl Tryz.isAgg48 Tryz.sizeOf48 hs pk0 rfl ?_
    (rw [show plainA x = ⟨x.kind,x.id,x.parent,x.name,x.dir,[]⟩ by unfold plainA; rw [if_pos hc5]]; exact ⟨none,0,rfl,((hs.ol_nil kComp 0 none).ol_rd .here).pick .here |>.drop2.drop2.drop2⟩)
  · refine wp_seq_k fun K6 hK6=>?_;refine wp_region_lit ?_;refine pY ha (yEql rfl rfl) fun a ha=>?_;refine pY ha (yAssign rfl) fun a ha=>?_;refine pZ ?_;refine hK6 _ _ ?_;refine cDec ha rfl (fun hc18=>?_) (fun hc18=>?_)
    · refine wp_seq_k fun K7 hK7=>?_;refine wp_region_lit ?_;refine pY ha (yFieldA Tryz.runUnderlying48 rfl Tryz.sizeOf3 rfl rfl) fun a ha=>?_;refine pY ha (yLoadB Tryz.isAgg3 hs rfl pk1 rfl) fun a ha=>?_;refine pY ha (yFieldA Tryz.runUnderlying48 rfl Tryz.sizeOf3 rfl rfl) fun a ha=>?_;refine pY ha (yLoadB Tryz.isAgg3 hs rfl pk1 rfl) fun a ha=>?_;refine pY ha (bldROpE48_0_1 rfl rfl) fun a ha=>?_;refine pStoreA ha Tryz.sizeOf48 hs rfl rfl pk0 rfl rfl rfl fun w hs=>?_;refine pZ ?_;refine hK7 _ _ ?_;refine wp_ret ?_;show bodyPost Tryz.prog Tryz.f50 _ .ret _ _;refine retC rfl ha rfl Tryz.isAgg48 Tryz.sizeOf48 hs pk0 rfl ?_
      (rw [show plainA x = ⟨x.kind,x.id,0,emp,false,[]⟩ by unfold plainA; rw [if_neg hc5,if_pos hc18]]; exact ⟨none,0,rfl,((hs.ol_nil kComp 0 none).ol_rd .here).pick .here |>.drop2.drop2.drop2⟩)
    · refine wp_seq_k fun K8 hK8=>?_;refine wp_region_lit ?_;refine pY ha (yEql rfl rfl) fun a ha=>?_;refine pY ha (yAssign rfl) fun a ha=>?_;refine pZ ?_;refine hK8 _ _ ?_;refine cDec ha rfl (fun hc25=>?_) (fun hc25=>?_)
      · refine wp_seq_k fun K9 hK9=>?_;refine wp_region_lit ?_;refine pY ha (yFieldA Tryz.runUnderlying48 rfl Tryz.sizeOf3 rfl rfl) fun a ha=>?_;refine pY ha (yLoadB Tryz.isAgg3 hs rfl pk1 rfl) fun a ha=>?_;refine pY ha (yFieldA Tryz.runUnderlying48 rfl Tryz.sizeOf3 rfl rfl) fun a ha=>?_;refine pY ha (yLoadB Tryz.isAgg3 hs rfl pk1 rfl) fun a ha=>?_;refine pY ha (yFieldA Tryz.runUnderlying48 rfl Tryz.sizeOf3 rfl rfl) fun a ha=>?_;refine pY ha (yLoadB Tryz.isAgg3 hs rfl pk1 rfl) fun a ha=>?_;refine pY ha (yFieldA Tryz.runUnderlying48 rfl Tryz.sizeOf9 rfl rfl) fun a ha=>?_;refine pY ha (yLoadB Tryz.isAgg9 hs rfl pk1 rfl) fun a ha=>?_;refine pY ha (bldROpE48_0_1_2_3 rfl rfl rfl rfl) fun a ha=>?_;refine pStoreA ha Tryz.sizeOf48 hs rfl rfl pk0 rfl rfl rfl fun w hs=>?_;refine pZ ?_;refine hK9 _ _ ?_;refine wp_ret ?_;show bodyPost Tryz.prog Tryz.f50 _ .ret _ _;refine retC rfl ha rfl Tryz.isAgg48 Tryz.sizeOf48 hs pk0 rfl ?_
        (rw [show plainA x = ⟨x.kind,x.id,x.parent,x.name,false,[]⟩ by unfold plainA; rw [if_neg hc5,if_neg hc18,if_pos hc25]]; exact ⟨none,0,rfl,((hs.ol_nil kComp 0 none).ol_rd .here).pick .here |>.drop2.drop2.drop2⟩)
      · refine wp_seq_k fun K10 hK10=>?_;refine wp_region_lit ?_;refine pY ha (yEql rfl rfl) fun a ha=>?_;refine pY ha (yAssign rfl) fun a ha=>?_;refine pZ ?_;refine hK10 _ _ ?_;refine cDec ha rfl (fun hc36=>?_) (fun hc36=>?_)
        · refine wp_seq_k fun K11 hK11=>?_;refine wp_region_lit ?_;refine pY ha (yFieldA Tryz.runUnderlying48 rfl Tryz.sizeOf3 rfl rfl) fun a ha=>?_;refine pY ha (yLoadB Tryz.isAgg3 hs rfl pk1 rfl) fun a ha=>?_;refine pY ha (yFieldA Tryz.runUnderlying48 rfl Tryz.sizeOf3 rfl rfl) fun a ha=>?_;refine pY ha (yLoadB Tryz.isAgg3 hs rfl pk1 rfl) fun a ha=>?_;refine pY ha (yFieldA Tryz.runUnderlying48 rfl Tryz.sizeOf46 rfl rfl) fun a ha=>?_;refine pY ha (yLoadB Tryz.isAgg46 hs rfl pk1 rfl) fun a ha=>?_;refine pY ha (bldROpE48_0_1_5 rfl rfl rfl) fun a ha=>?_;refine pStoreA ha Tryz.sizeOf48 hs rfl rfl pk0 rfl rfl rfl fun w hs=>?_;refine pZ ?_;refine hK11 _ _ ?_;refine wp_ret ?_;show bodyPost Tryz.prog Tryz.f50 _ .ret _ _;refine retC rfl ha rfl Tryz.isAgg48 Tryz.sizeOf48 hs pk0 rfl ?_
          (rw [show plainA x = ⟨x.kind,x.id,0,emp,false,x.ops⟩ by unfold plainA; rw [if_neg hc5,if_neg hc18,if_neg hc25,if_pos hc36]]; exact ⟨A,c,rfl,hs.drop.drop⟩)
        · refine wp_skip ?_;refine hK2 _ _ ?_;refine wp_seq_k fun K12 hK12=>?_;refine wp_region_lit ?_;refine pY ha (yFieldA Tryz.runUnderlying48 rfl Tryz.sizeOf3 rfl rfl) fun a ha=>?_;refine pY ha (yLoadB Tryz.isAgg3 hs rfl pk1 rfl) fun a ha=>?_;refine pY ha (bldROpE48_0 rfl) fun a ha=>?_;refine pStoreA ha Tryz.sizeOf48 hs rfl rfl pk0 rfl rfl rfl fun w hs=>?_;refine pZ ?_;refine hK12 _ _ ?_;refine wp_ret ?_;show bodyPost Tryz.prog Tryz.f50 _ .ret _ _;refine retC rfl ha rfl Tryz.isAgg48 Tryz.sizeOf48 hs pk0 rfl ?_
          (rw [show plainA x = ⟨x.kind,0,0,emp,false,[]⟩ by unfold plainA; rw [if_neg hc5,if_neg hc18,if_neg hc25,if_neg hc36]]; exact ⟨none,0,rfl,((hs.ol_nil kComp 0 none).ol_rd .here).pick .here |>.drop2.drop2.drop2⟩)
end
end Go.Proofs.YtnlhbkaieoogfaaGreatDoor

set_option linter.unusedVariables false
set_option linter.unusedSimpArgs false
namespace Go.Proofs.YtnlhbkaieoogfaaGreatDoor
open Go.RowKit Go.Lib
theorem puts_bound {xs : List Actn} {i : Nat} (hm : ∀ x ∈ xs,mA x) (h0 : fe (actE xs) i = 0) (hn : xs.length≤20) (hi : i≤xs.length) : putsA (xs.take i)≤2000000000000:=by
  have h1:=putsA_le (B:=100000000000) (xs.take i) (fun y hy=>by
    obtain ⟨j,hj,rfl⟩:=List.mem_iff_getElem.1 hy
    have hj2 : j < i:=by rw [List.length_take] at hj; omega
    have hz:=fe_zero h0 j hj2
    rw [actE_at (List.getElem?_eq_getElem (by omega))] at hz;rw [List.getElem_take]
    have h1 : oneE xs[j] = 0:=by
      split at hz
      · rename_i h4; exact absurd hz h4
      · rename_i h4; simpa using h4
    obtain ⟨g1,g2⟩:=fit_of (hm _ (List.getElem_mem _)) h1
    have:=putsC_le (B:=1000000000) xs[j].ops (fun c hc=>(g2 c hc).1)
    have : xs[j].ops.length * 1000000000≤100 * 1000000000:=Nat.mul_le_mul_right _ g1
    omega)
  rw [List.length_take] at h1
  have : min i xs.length * 100000000000≤20 * 100000000000:=Nat.mul_le_mul_right _ (by omega)
  omega
theorem puts_at {xs : List Actn} {i : Nat} {x : Actn} (hx : xs[i]? = some x) : putsA (xs.take (i + 1)) = putsA (xs.take i) + putsC x.ops:=by
  rw [List.take_add_one,hx,putsA_append]; simp [putsA]
theorem plain_ops {x : Actn} (h : ¬ badA x) (hk : x.kind ≠ 4) : x.ops = []:=by
  have b3 : x = plainA x:=by
    unfold badA at h;simp only [not_or] at h;exact Classical.not_not.1 h.2.2.1
  rw [b3];unfold plainA
  repeat' split
  all_goals rfl
theorem snd_cnt {y : Comp} (h : sndC y = true) : okText y.text.data.toList = true∧cnt y.text.data.toList = if y.kind = 2 then cnt y.text.data.toList else 0:=by
  rcases snd_ok h with ⟨h1,h2⟩ | ⟨h1,h2⟩
  · exact ⟨h2,by rw [if_pos h1]⟩
  · rw [if_neg h1,h2]; exact ⟨rfl,rfl⟩
section
variable {W w : World} {cs r r' : List Ch}
theorem RTxn_c {A : Option Addr} {n c : Nat} {xs : List Actn} (hm : ∀ x ∈ xs,mA x) (hs : Sep W w cs) (hk : Pick cs (.rd kActn (.slice A n c) xs) r) :
    Calls P 17 #[.slice A n c] w (Rt fun v w'=>v = .int .i64 (txnE xs)∧Sep W w' cs):=by
  obtain ⟨rfl,hl⟩:=hs.rd_shape hk;unfold maxLen at hl;have hs:=hs.cpR hk;refine enter Tryz.func17 Tryz.ntmps17 rfl rfl fun a (ha : Has a 121 [(0,_)])=>?_;refine wp_seq_k fun K1 hK1=>?_;refine wp_region_lit ?_;refine pY ha (yAssign rfl) fun a ha=>?_;refine pZ ?_;refine hK1 _ _ ?_;refine wp_seq_k fun K2 hK2=>?_;refine wp_seq_k fun K3 hK3=>?_;refine wp_region_lit ?_;refine pY ha (yMove rfl) fun a ha=>?_;refine pY ha (yLenS Tryz.runUnderlying22 rfl) fun a ha=>?_;refine pY ha (yGtr rfl rfl) fun a ha=>?_;refine pZ ?_;refine hK3 _ _ ?_;refine cDec ha rfl (fun hc11=>?_) (fun hc11=>?_)
  · refine wp_seq_k fun K4 hK4=>?_;refine wp_region_lit ?_;refine pY ha (yAssign rfl) fun a ha=>?_;refine pZ ?_;refine hK4 _ _ ?_;refine wp_ret ?_;show bodyPost Tryz.prog Tryz.f17 _ .ret _ _;refine ret1 rfl ha rfl ?_
    (refine ⟨congrArg (Value.int .i64) ?_,hs.drop⟩; unfold txnE; rw [if_pos (by omega)])
  · have hn20 : xs.length≤20:=by omega
    refine wp_skip ?_;refine hK2 _ _ ?_;refine wp_seq_k fun K5 hK5=>?_;refine wp_region_lit ?_;refine pY ha (yAssign rfl) fun a ha=>?_;refine pZ ?_;refine hK5 _ _ ?_;refine wp_seq_k fun K6 hK6=>?_;refine wp_seq_k fun K7 hK7=>?_;refine wp_region_lit ?_;refine pY ha (yAssign rfl) fun a ha=>?_;refine pZ ?_;refine hK7 _ _ ?_;refine wp_block ?_;refine loopI (ι:=Nat) (fun i a w=>i≤xs.length∧fe (actE xs) i = 0∧Has a 121 [(0,.slice A xs.length c),(3,.int .i64 (putsA (xs.take i))),(4,.int .i64 i)]∧Sep W w (.rd kActn (.slice A xs.length c) xs::cs)) (fun i=>xs.length - i) (0) ?_ ?_
    · exact ⟨Nat.zero_le _,rfl,has3 ha rfl rfl rfl,hs⟩
    · rintro i a w ⟨h1,h2,ha,hs⟩;refine wp_seq_k fun K8 hK8=>?_;refine wp_seq_k fun K9 hK9=>?_;refine wp_region_lit ?_;refine pY ha (yMove rfl) fun a ha=>?_;refine pY ha (yMove rfl) fun a ha=>?_;refine pY ha (yLenS Tryz.runUnderlying22 rfl) fun a ha=>?_;refine pY ha (yLss rfl rfl) fun a ha=>?_;refine pZ ?_;refine hK9 _ _ ?_;refine cDec ha rfl (fun hc15=>?_) (fun hc15=>?_)
      · obtain ⟨x,hx⟩ : ∃ x,xs[i]? = some x:=⟨_,List.getElem?_eq_getElem (by omega)⟩;obtain ⟨hm1,hm2,hm3⟩:=hm x (List.mem_of_getElem? hx)
        have hpb:=puts_bound hm h2 hn20 h1
        obtain ⟨b0,off,A',n',c',rfl,hs⟩:=hs.rd_actn .here hx;obtain ⟨rfl,hl2⟩:=hs.rd_shape (.there .here);refine wp_skip ?_;refine hK8 _ _ ?_;refine wp_seq_k fun K10 hK10=>?_;refine wp_block ?_;refine wp_seq_k fun K11 hK11=>?_;refine wp_region_lit ?_;refine pY ha (yMove rfl) fun a ha=>?_;refine pY ha (yMove rfl) fun a ha=>?_;refine pY ha (yIndexA Tryz.runUnderlying22 Tryz.sizeOf48 rfl rfl (by omega) (by omega)) fun a ha=>?_;refine pY ha (yLoadRA Tryz.isAgg48 Tryz.sizeOf48 hs rfl pk0 rfl) fun a ha=>?_;refine pAlloc (zs:=[.int .i64 0,.int .i64 0,.int .i64 0,.string ⟨#[]⟩,.bool false,.slice none 0 0]) ha Tryz.zeroValue48 rfl hs rfl fun ba w hs a ha=>?_;refine pStoreA ha Tryz.sizeOf48 hs rfl rfl pk0 rfl rfl rfl fun w hs=>?_;refine pZ ?_;refine hK11 _ _ ?_;refine wp_seq_k fun K12 hK12=>?_;refine wp_seq_k fun K13 hK13=>?_;refine cutC (fun a w=>Has a 121 [(72,.bool (decide (badA x))),(0,.slice (some ⟨b0,off,none⟩) xs.length c),(3,.int .i64 (putsA (xs.take i))),(4,.int .i64 i),(5,.pointer (some ⟨ba,0,none⟩))]∧Sep W w (.blk ba 48 [.int .i64 x.kind,.int .i64 x.id,.int .i64 x.parent,.string x.name,.bool x.dir,.slice A' x.ops.length c']::.rd kComp (.slice A' x.ops.length c') x.ops::.rd kActn (.slice (some ⟨b0,off,none⟩) xs.length c) xs::cs)) ?_ ?_
        · refine dStart (fun w=>∃ rs,Sep W w (.blk ba 48 [.int .i64 x.kind,.int .i64 x.id,.int .i64 x.parent,.string x.name,.bool x.dir,.slice A' x.ops.length c']::rs)) [47] 2251799813685247 140737488355327 (by kernel_rfl) (by kernel_rfl) rfl (⟨_,hs.drew.pick pk0⟩) ?_
          have hs:=Sep.drew hs
          generalize World.drew _ = w at hs ⊢;refine dP 0 1 rfl ha (fun _=>yFieldA Tryz.runUnderlying48 rfl Tryz.sizeOf3 rfl rfl) fun a ha=>?_;refine dT 1 3 rfl ha (fun _ ⟨rs,hs⟩=>yLoadB Tryz.isAgg3 hs rfl pk0 rfl) (⟨_,hs.pick pk0⟩) fun a ha=>?_;refine dP 2 7 rfl ha (fun _=>yLss rfl rfl) fun a ha=>?_;refine dP 3 15 rfl ha (fun _=>yMove rfl) fun a ha=>?_;refine gDec (t:=25) ha rfl (fun hg3 hp3=>?_) (fun hg3 hp3=>?_)
          · rw [hg3] at ha;refine dP 4 31 rfl ha (fun _=>yFieldA Tryz.runUnderlying48 rfl Tryz.sizeOf3 rfl rfl) fun a ha=>?_;refine dT 5 63 rfl ha (fun _ ⟨rs,hs⟩=>yLoadB Tryz.isAgg3 hs rfl pk0 rfl) (⟨_,hs.pick pk0⟩) fun a ha=>?_;refine dP 6 127 rfl ha (fun _=>yGtr rfl rfl) fun a ha=>?_;refine dP 7 255 rfl ha (fun _=>yPickF rfl rfl) fun a ha=>?_;refine dP 8 511 rfl ha (fun _=>yMove rfl) fun a ha=>?_;refine gSplit (t:=30) ha rfl (fun hg8=>?_) (fun hg8=>?_)
            · rw [hg8] at ha
              have hp8:=of_decide_eq_false hg8
              refine dT 9 1023 rfl ha (fun _ ⟨rs,hs⟩=>yLoadBA Tryz.isAgg48 Tryz.sizeOf48 hs rfl pk0 rfl) (⟨_,hs.pick pk0⟩) fun a ha=>?_;refine dT 10 2047 rfl ha (fun _ ⟨rs,hs⟩=>yLoadBA Tryz.isAgg48 Tryz.sizeOf48 hs rfl pk0 rfl) (⟨_,hs.pick pk0⟩) fun a ha=>?_;refine dC 11 4095 rfl (by kernel_rfl) rfl ha (won1 rfl rfl rfl) (nCall Tryz.call50 rfl) rfl (RPlainA_c (x:=x) hs pk2) ?_;rintro v w ⟨A2,c2,rfl,hs⟩;refine ⟨⟨_,hs.pick pk1⟩,fun a ha=>?_⟩;refine dC 12 8191 rfl (by kernel_rfl) rfl ha (won1 rfl rfl rfl) (nCall Tryz.call49 rfl) rfl (RSameA_c (x:=x) (y:=plainA x) hs (.there (.there (.there .here))) .here) ?_;rintro v w ⟨rfl,hs⟩;refine ⟨⟨_,hs.pick pk1⟩,fun a ha=>?_⟩;refine dP 13 16383 rfl ha (fun _=>yNot rfl) fun a ha=>?_;refine dP 14 32767 rfl ha (fun _=>yPickF rfl rfl) fun a ha=>?_;refine dP 15 65535 rfl ha (fun _=>yMove rfl) fun a ha=>?_;refine gSplit (t:=37) ha rfl (fun hg15=>?_) (fun hg15=>?_)
              · rw [hg15] at ha
                have hp15 : x = plainA x:=by simpa using hg15
                refine dP 16 131071 rfl ha (fun _=>yFieldA Tryz.runUnderlying48 rfl Tryz.sizeOf3 rfl rfl) fun a ha=>?_;refine dT 17 262143 rfl ha (fun _ ⟨rs,hs⟩=>yLoadB Tryz.isAgg3 hs rfl pk0 rfl) (⟨_,hs.pick pk1⟩) fun a ha=>?_;refine dP 18 524287 rfl ha (fun _=>yLss rfl rfl) fun a ha=>?_;refine dP 19 1048575 rfl ha (fun _=>yPickF rfl rfl) fun a ha=>?_;refine dP 20 2097151 rfl ha (fun _=>yMove rfl) fun a ha=>?_;refine gSplit (t:=42) ha rfl (fun hg20=>?_) (fun hg20=>?_)
                · rw [hg20] at ha
                  have hp20:=of_decide_eq_false hg20
                  refine dP 21 4194303 rfl ha (fun _=>yFieldA Tryz.runUnderlying48 rfl Tryz.sizeOf3 rfl rfl) fun a ha=>?_;refine dT 22 8388607 rfl ha (fun _ ⟨rs,hs⟩=>yLoadB Tryz.isAgg3 hs rfl pk0 rfl) (⟨_,hs.pick pk1⟩) fun a ha=>?_;refine dP 23 16777215 rfl ha (fun _=>yGtr rfl rfl) fun a ha=>?_;refine dP 24 33554431 rfl ha (fun _=>yPickF rfl rfl) fun a ha=>?_;refine dP 25 67108863 rfl ha (fun _=>yMove rfl) fun a ha=>?_;refine gSplit (t:=47) ha rfl (fun hg25=>?_) (fun hg25=>?_)
                  · rw [hg25] at ha
                    have hp25:=of_decide_eq_false hg25
                    refine dP 26 134217727 rfl ha (fun _=>yFieldA Tryz.runUnderlying48 rfl Tryz.sizeOf3 rfl rfl) fun a ha=>?_;refine dT 27 268435455 rfl ha (fun _ ⟨rs,hs⟩=>yLoadB Tryz.isAgg3 hs rfl pk0 rfl) (⟨_,hs.pick pk1⟩) fun a ha=>?_;refine dP 28 536870911 rfl ha (fun _=>yLss rfl rfl) fun a ha=>?_;refine dP 29 1073741823 rfl ha (fun _=>yPickF rfl rfl) fun a ha=>?_;refine dP 30 2147483647 rfl ha (fun _=>yMove rfl) fun a ha=>?_;refine gSplit (t:=52) ha rfl (fun hg30=>?_) (fun hg30=>?_)
                    · rw [hg30] at ha
                      have hp30:=of_decide_eq_false hg30
                      refine dP 31 4294967295 rfl ha (fun _=>yFieldA Tryz.runUnderlying48 rfl Tryz.sizeOf3 rfl rfl) fun a ha=>?_;refine dT 32 8589934591 rfl ha (fun _ ⟨rs,hs⟩=>yLoadB Tryz.isAgg3 hs rfl pk0 rfl) (⟨_,hs.pick pk1⟩) fun a ha=>?_;refine dP 33 17179869183 rfl ha (fun _=>yGtr rfl rfl) fun a ha=>?_;refine dP 34 34359738367 rfl ha (fun _=>yPickF rfl rfl) fun a ha=>?_;refine dP 35 68719476735 rfl ha (fun _=>yMove rfl) fun a ha=>?_;refine gSplit (t:=57) ha rfl (fun hg35=>?_) (fun hg35=>?_)
                      · rw [hg35] at ha
                        have hp35:=of_decide_eq_false hg35
                        refine dP 36 137438953471 rfl ha (fun _=>yFieldA Tryz.runUnderlying48 rfl Tryz.sizeOf3 rfl rfl) fun a ha=>?_;refine dT 37 274877906943 rfl ha (fun _ ⟨rs,hs⟩=>yLoadB Tryz.isAgg3 hs rfl pk0 rfl) (⟨_,hs.pick pk1⟩) fun a ha=>?_;refine dP 38 549755813887 rfl ha (fun _=>yEql rfl rfl) fun a ha=>?_;refine dP 39 1099511627775 rfl ha (fun _=>yMove rfl) fun a ha=>?_;refine gDec (t:=61) ha rfl (fun hg39 hp39=>?_) (fun hg39 hp39=>?_)
                        · rw [hg39] at ha;refine dP 40 2199023255551 rfl ha (fun _=>yFieldA Tryz.runUnderlying48 rfl Tryz.sizeOf3 rfl rfl) fun a ha=>?_;refine dT 41 4398046511103 rfl ha (fun _ ⟨rs,hs⟩=>yLoadB Tryz.isAgg3 hs rfl pk0 rfl) (⟨_,hs.pick pk1⟩) fun a ha=>?_;refine dP 42 8796093022207 rfl ha (fun _=>yEql rfl rfl) fun a ha=>?_;refine dP 43 17592186044415 rfl ha (fun _=>yPickF rfl rfl) fun a ha=>?_;refine dP 44 35184372088831 rfl ha (fun _=>yMove rfl) fun a ha=>?_;refine gSplit (t:=66) ha rfl (fun hg44=>?_) (fun hg44=>?_)
                          · rw [hg44] at ha
                            have hp44:=of_decide_eq_false hg44
                            refine dOff 45 70368744177663 rfl ha fun a ha=>?_;refine dOff 46 140737488355327 rfl ha fun a ha=>?_;refine dOff 47 281474976710655 rfl ha fun a ha=>?_;refine dOff 48 562949953421311 rfl ha fun a ha=>?_;refine dP 49 1125899906842623 rfl ha (fun _=>yPickF rfl rfl) fun a ha=>?_;refine dP 50 2251799813685247 rfl ha (fun _=>yPickF rfl rfl) fun a ha=>?_;refine dZ (by kernel_rfl) ?_;refine ⟨rfl,?_⟩;exact ⟨has5 ha (bF (fun h=>by have:=(((((((h.resolve_left hp3).resolve_left hp8).resolve_left (fun q=>q hp15)).resolve_left hp20).resolve_left hp25).resolve_left hp30).resolve_left hp35).1; rcases this with e | e <;> first | exact hp39 e | exact hp44 e)) rfl rfl rfl rfl,hs.drop.drop2⟩
                          · rw [hg44] at ha
                            have hp44:=of_decide_eq_true hg44
                            refine dP 45 70368744177663 rfl ha (fun _=>yFieldA Tryz.runUnderlying48 rfl Tryz.sizeOf9 rfl rfl) fun a ha=>?_;refine dT 46 140737488355327 rfl ha (fun _ ⟨rs,hs⟩=>yLoadB Tryz.isAgg9 hs rfl pk0 rfl) (⟨_,hs.pick pk1⟩) fun a ha=>?_;refine dCl 47 281474976710655 rfl (by kernel_rfl) rfl ha (won1 rfl rfl rfl) (nCall Tryz.call51 rfl) rfl (RName_c x.name hm1 hs) ?_;rintro v w ⟨rfl,hs⟩ a ha;refine dP 48 562949953421311 rfl ha (fun _=>yNot rfl) fun a ha=>?_;refine dP 49 1125899906842623 rfl ha (fun _=>yPickT rfl rfl) fun a ha=>?_;refine dP 50 2251799813685247 rfl ha (fun _=>yPickF rfl rfl) fun a ha=>?_;refine dZ (by kernel_rfl) ?_;refine ⟨rfl,?_⟩;exact ⟨has5 ha (bN ⟨fun h=>.inr (.inr (.inr (.inr (.inr (.inr (.inr ⟨.inr hp44,by simpa using h⟩)))))),fun h=>by have:=(((((((h.resolve_left hp3).resolve_left hp8).resolve_left (fun q=>q hp15)).resolve_left hp20).resolve_left hp25).resolve_left hp30).resolve_left hp35).2; rw [this]; rfl⟩) rfl rfl rfl rfl,hs.drop.drop2⟩
                        · rw [hg39] at ha;refine dOff 40 2199023255551 rfl ha fun a ha=>?_;refine dOff 41 4398046511103 rfl ha fun a ha=>?_;refine dOff 42 8796093022207 rfl ha fun a ha=>?_;refine dP 43 17592186044415 rfl ha (fun _=>yPickT rfl rfl) fun a ha=>?_;refine dP 44 35184372088831 rfl ha (fun _=>yMove rfl) fun a ha=>?_;refine dP 45 70368744177663 rfl ha (fun _=>yFieldA Tryz.runUnderlying48 rfl Tryz.sizeOf9 rfl rfl) fun a ha=>?_;refine dT 46 140737488355327 rfl ha (fun _ ⟨rs,hs⟩=>yLoadB Tryz.isAgg9 hs rfl pk0 rfl) (⟨_,hs.pick pk1⟩) fun a ha=>?_;refine dCl 47 281474976710655 rfl (by kernel_rfl) rfl ha (won1 rfl rfl rfl) (nCall Tryz.call51 rfl) rfl (RName_c x.name hm1 hs) ?_;rintro v w ⟨rfl,hs⟩ a ha;refine dP 48 562949953421311 rfl ha (fun _=>yNot rfl) fun a ha=>?_;refine dP 49 1125899906842623 rfl ha (fun _=>yPickT rfl rfl) fun a ha=>?_;refine dP 50 2251799813685247 rfl ha (fun _=>yPickF rfl rfl) fun a ha=>?_;refine dZ (by kernel_rfl) ?_;refine ⟨rfl,?_⟩;exact ⟨has5 ha (bN ⟨fun h=>.inr (.inr (.inr (.inr (.inr (.inr (.inr ⟨.inl hp39,by simpa using h⟩)))))),fun h=>by have:=(((((((h.resolve_left hp3).resolve_left hp8).resolve_left (fun q=>q hp15)).resolve_left hp20).resolve_left hp25).resolve_left hp30).resolve_left hp35).2; rw [this]; rfl⟩) rfl rfl rfl rfl,hs.drop.drop2⟩
                      · rw [hg35] at ha
                        have hp35:=of_decide_eq_true hg35
                        refine dOff 36 137438953471 rfl ha fun a ha=>?_;refine dOff 37 274877906943 rfl ha fun a ha=>?_;refine dOff 38 549755813887 rfl ha fun a ha=>?_;refine dOff 39 1099511627775 rfl ha fun a ha=>?_;refine dOffU 40 2199023255551 rfl ha fun a ha=>?_;refine dOffU 41 4398046511103 rfl ha fun a ha=>?_;refine dOffU 42 8796093022207 rfl ha fun a ha=>?_;refine dOff 43 17592186044415 rfl ha fun a ha=>?_;refine dOff 44 35184372088831 rfl ha fun a ha=>?_;refine dOffU 45 70368744177663 rfl ha fun a ha=>?_;refine dOffU 46 140737488355327 rfl ha fun a ha=>?_;refine dOffU 47 281474976710655 rfl ha fun a ha=>?_;refine dOffU 48 562949953421311 rfl ha fun a ha=>?_;refine dOff 49 1125899906842623 rfl ha fun a ha=>?_;refine dP 50 2251799813685247 rfl ha (fun _=>yPickT rfl rfl) fun a ha=>?_;refine dZ (by kernel_rfl) ?_;refine ⟨rfl,?_⟩;exact ⟨has5 ha (bY (.inr (.inr (.inr (.inr (.inr (.inr (.inl hp35)))))))) rfl rfl rfl rfl,hs.drop.drop2⟩
                    · rw [hg30] at ha
                      have hp30:=of_decide_eq_true hg30
                      refine dOff 31 4294967295 rfl ha fun a ha=>?_;refine dOff 32 8589934591 rfl ha fun a ha=>?_;refine dOff 33 17179869183 rfl ha fun a ha=>?_;refine dP 34 34359738367 rfl ha (fun _=>yPickT rfl rfl) fun a ha=>?_;refine dP 35 68719476735 rfl ha (fun _=>yMove rfl) fun a ha=>?_;refine dOff 36 137438953471 rfl ha fun a ha=>?_;refine dOff 37 274877906943 rfl ha fun a ha=>?_;refine dOff 38 549755813887 rfl ha fun a ha=>?_;refine dOff 39 1099511627775 rfl ha fun a ha=>?_;refine dOffU 40 2199023255551 rfl ha fun a ha=>?_;refine dOffU 41 4398046511103 rfl ha fun a ha=>?_;refine dOffU 42 8796093022207 rfl ha fun a ha=>?_;refine dOff 43 17592186044415 rfl ha fun a ha=>?_;refine dOff 44 35184372088831 rfl ha fun a ha=>?_;refine dOffU 45 70368744177663 rfl ha fun a ha=>?_;refine dOffU 46 140737488355327 rfl ha fun a ha=>?_;refine dOffU 47 281474976710655 rfl ha fun a ha=>?_;refine dOffU 48 562949953421311 rfl ha fun a ha=>?_;refine dOff 49 1125899906842623 rfl ha fun a ha=>?_;refine dP 50 2251799813685247 rfl ha (fun _=>yPickT rfl rfl) fun a ha=>?_;refine dZ (by kernel_rfl) ?_;refine ⟨rfl,?_⟩;exact ⟨has5 ha (bY (.inr (.inr (.inr (.inr (.inr (.inl hp30))))))) rfl rfl rfl rfl,hs.drop.drop2⟩
                  · rw [hg25] at ha
                    have hp25:=of_decide_eq_true hg25
                    refine dOff 26 134217727 rfl ha fun a ha=>?_;refine dOff 27 268435455 rfl ha fun a ha=>?_;refine dOff 28 536870911 rfl ha fun a ha=>?_;refine dP 29 1073741823 rfl ha (fun _=>yPickT rfl rfl) fun a ha=>?_;refine dP 30 2147483647 rfl ha (fun _=>yMove rfl) fun a ha=>?_;refine dOff 31 4294967295 rfl ha fun a ha=>?_;refine dOff 32 8589934591 rfl ha fun a ha=>?_;refine dOff 33 17179869183 rfl ha fun a ha=>?_;refine dP 34 34359738367 rfl ha (fun _=>yPickT rfl rfl) fun a ha=>?_;refine dP 35 68719476735 rfl ha (fun _=>yMove rfl) fun a ha=>?_;refine dOff 36 137438953471 rfl ha fun a ha=>?_;refine dOff 37 274877906943 rfl ha fun a ha=>?_;refine dOff 38 549755813887 rfl ha fun a ha=>?_;refine dOff 39 1099511627775 rfl ha fun a ha=>?_;refine dOffU 40 2199023255551 rfl ha fun a ha=>?_;refine dOffU 41 4398046511103 rfl ha fun a ha=>?_;refine dOffU 42 8796093022207 rfl ha fun a ha=>?_;refine dOff 43 17592186044415 rfl ha fun a ha=>?_;refine dOff 44 35184372088831 rfl ha fun a ha=>?_;refine dOffU 45 70368744177663 rfl ha fun a ha=>?_;refine dOffU 46 140737488355327 rfl ha fun a ha=>?_;refine dOffU 47 281474976710655 rfl ha fun a ha=>?_;refine dOffU 48 562949953421311 rfl ha fun a ha=>?_;refine dOff 49 1125899906842623 rfl ha fun a ha=>?_;refine dP 50 2251799813685247 rfl ha (fun _=>yPickT rfl rfl) fun a ha=>?_;refine dZ (by kernel_rfl) ?_;refine ⟨rfl,?_⟩;exact ⟨has5 ha (bY (.inr (.inr (.inr (.inr (.inl hp25)))))) rfl rfl rfl rfl,hs.drop.drop2⟩
                · rw [hg20] at ha
                  have hp20:=of_decide_eq_true hg20
                  refine dOff 21 4194303 rfl ha fun a ha=>?_;refine dOff 22 8388607 rfl ha fun a ha=>?_;refine dOff 23 16777215 rfl ha fun a ha=>?_;refine dP 24 33554431 rfl ha (fun _=>yPickT rfl rfl) fun a ha=>?_;refine dP 25 67108863 rfl ha (fun _=>yMove rfl) fun a ha=>?_;refine dOff 26 134217727 rfl ha fun a ha=>?_;refine dOff 27 268435455 rfl ha fun a ha=>?_;refine dOff 28 536870911 rfl ha fun a ha=>?_;refine dP 29 1073741823 rfl ha (fun _=>yPickT rfl rfl) fun a ha=>?_;refine dP 30 2147483647 rfl ha (fun _=>yMove rfl) fun a ha=>?_;refine dOff 31 4294967295 rfl ha fun a ha=>?_;refine dOff 32 8589934591 rfl ha fun a ha=>?_;refine dOff 33 17179869183 rfl ha fun a ha=>?_;refine dP 34 34359738367 rfl ha (fun _=>yPickT rfl rfl) fun a ha=>?_;refine dP 35 68719476735 rfl ha (fun _=>yMove rfl) fun a ha=>?_;refine dOff 36 137438953471 rfl ha fun a ha=>?_;refine dOff 37 274877906943 rfl ha fun a ha=>?_;refine dOff 38 549755813887 rfl ha fun a ha=>?_;refine dOff 39 1099511627775 rfl ha fun a ha=>?_;refine dOffU 40 2199023255551 rfl ha fun a ha=>?_;refine dOffU 41 4398046511103 rfl ha fun a ha=>?_;refine dOffU 42 8796093022207 rfl ha fun a ha=>?_;refine dOff 43 17592186044415 rfl ha fun a ha=>?_;refine dOff 44 35184372088831 rfl ha fun a ha=>?_;refine dOffU 45 70368744177663 rfl ha fun a ha=>?_;refine dOffU 46 140737488355327 rfl ha fun a ha=>?_;refine dOffU 47 281474976710655 rfl ha fun a ha=>?_;refine dOffU 48 562949953421311 rfl ha fun a ha=>?_;refine dOff 49 1125899906842623 rfl ha fun a ha=>?_;refine dP 50 2251799813685247 rfl ha (fun _=>yPickT rfl rfl) fun a ha=>?_;refine dZ (by kernel_rfl) ?_;refine ⟨rfl,?_⟩;exact ⟨has5 ha (bY (.inr (.inr (.inr (.inl hp20))))) rfl rfl rfl rfl,hs.drop.drop2⟩
              · rw [hg15] at ha
                have hp15 : x ≠ plainA x:=by simpa using hg15
                refine dOff 16 131071 rfl ha fun a ha=>?_;refine dOff 17 262143 rfl ha fun a ha=>?_;refine dOff 18 524287 rfl ha fun a ha=>?_;refine dP 19 1048575 rfl ha (fun _=>yPickT rfl rfl) fun a ha=>?_;refine dP 20 2097151 rfl ha (fun _=>yMove rfl) fun a ha=>?_;refine dOff 21 4194303 rfl ha fun a ha=>?_;refine dOff 22 8388607 rfl ha fun a ha=>?_;refine dOff 23 16777215 rfl ha fun a ha=>?_;refine dP 24 33554431 rfl ha (fun _=>yPickT rfl rfl) fun a ha=>?_;refine dP 25 67108863 rfl ha (fun _=>yMove rfl) fun a ha=>?_;refine dOff 26 134217727 rfl ha fun a ha=>?_;refine dOff 27 268435455 rfl ha fun a ha=>?_;refine dOff 28 536870911 rfl ha fun a ha=>?_;refine dP 29 1073741823 rfl ha (fun _=>yPickT rfl rfl) fun a ha=>?_;refine dP 30 2147483647 rfl ha (fun _=>yMove rfl) fun a ha=>?_;refine dOff 31 4294967295 rfl ha fun a ha=>?_;refine dOff 32 8589934591 rfl ha fun a ha=>?_;refine dOff 33 17179869183 rfl ha fun a ha=>?_;refine dP 34 34359738367 rfl ha (fun _=>yPickT rfl rfl) fun a ha=>?_;refine dP 35 68719476735 rfl ha (fun _=>yMove rfl) fun a ha=>?_;refine dOff 36 137438953471 rfl ha fun a ha=>?_;refine dOff 37 274877906943 rfl ha fun a ha=>?_;refine dOff 38 549755813887 rfl ha fun a ha=>?_;refine dOff 39 1099511627775 rfl ha fun a ha=>?_;refine dOffU 40 2199023255551 rfl ha fun a ha=>?_;refine dOffU 41 4398046511103 rfl ha fun a ha=>?_;refine dOffU 42 8796093022207 rfl ha fun a ha=>?_;refine dOff 43 17592186044415 rfl ha fun a ha=>?_;refine dOff 44 35184372088831 rfl ha fun a ha=>?_;refine dOffU 45 70368744177663 rfl ha fun a ha=>?_;refine dOffU 46 140737488355327 rfl ha fun a ha=>?_;refine dOffU 47 281474976710655 rfl ha fun a ha=>?_;refine dOffU 48 562949953421311 rfl ha fun a ha=>?_;refine dOff 49 1125899906842623 rfl ha fun a ha=>?_;refine dP 50 2251799813685247 rfl ha (fun _=>yPickT rfl rfl) fun a ha=>?_;refine dZ (by kernel_rfl) ?_;refine ⟨rfl,?_⟩;exact ⟨has5 ha (bY (.inr (.inr (.inl hp15)))) rfl rfl rfl rfl,hs.drop.drop2⟩
            · rw [hg8] at ha
              have hp8:=of_decide_eq_true hg8
              refine dOff 9 1023 rfl ha fun a ha=>?_;refine dOff 10 2047 rfl ha fun a ha=>?_;refine dOff 11 4095 rfl ha fun a ha=>?_;refine dOff 12 8191 rfl ha fun a ha=>?_;refine dOff 13 16383 rfl ha fun a ha=>?_;refine dP 14 32767 rfl ha (fun _=>yPickT rfl rfl) fun a ha=>?_;refine dP 15 65535 rfl ha (fun _=>yMove rfl) fun a ha=>?_;refine dOff 16 131071 rfl ha fun a ha=>?_;refine dOff 17 262143 rfl ha fun a ha=>?_;refine dOff 18 524287 rfl ha fun a ha=>?_;refine dP 19 1048575 rfl ha (fun _=>yPickT rfl rfl) fun a ha=>?_;refine dP 20 2097151 rfl ha (fun _=>yMove rfl) fun a ha=>?_;refine dOff 21 4194303 rfl ha fun a ha=>?_;refine dOff 22 8388607 rfl ha fun a ha=>?_;refine dOff 23 16777215 rfl ha fun a ha=>?_;refine dP 24 33554431 rfl ha (fun _=>yPickT rfl rfl) fun a ha=>?_;refine dP 25 67108863 rfl ha (fun _=>yMove rfl) fun a ha=>?_;refine dOff 26 134217727 rfl ha fun a ha=>?_;refine dOff 27 268435455 rfl ha fun a ha=>?_;refine dOff 28 536870911 rfl ha fun a ha=>?_;refine dP 29 1073741823 rfl ha (fun _=>yPickT rfl rfl) fun a ha=>?_;refine dP 30 2147483647 rfl ha (fun _=>yMove rfl) fun a ha=>?_;refine dOff 31 4294967295 rfl ha fun a ha=>?_;refine dOff 32 8589934591 rfl ha fun a ha=>?_;refine dOff 33 17179869183 rfl ha fun a ha=>?_;refine dP 34 34359738367 rfl ha (fun _=>yPickT rfl rfl) fun a ha=>?_;refine dP 35 68719476735 rfl ha (fun _=>yMove rfl) fun a ha=>?_;refine dOff 36 137438953471 rfl ha fun a ha=>?_;refine dOff 37 274877906943 rfl ha fun a ha=>?_;refine dOff 38 549755813887 rfl ha fun a ha=>?_;refine dOff 39 1099511627775 rfl ha fun a ha=>?_;refine dOffU 40 2199023255551 rfl ha fun a ha=>?_;refine dOffU 41 4398046511103 rfl ha fun a ha=>?_;refine dOffU 42 8796093022207 rfl ha fun a ha=>?_;refine dOff 43 17592186044415 rfl ha fun a ha=>?_;refine dOff 44 35184372088831 rfl ha fun a ha=>?_;refine dOffU 45 70368744177663 rfl ha fun a ha=>?_;refine dOffU 46 140737488355327 rfl ha fun a ha=>?_;refine dOffU 47 281474976710655 rfl ha fun a ha=>?_;refine dOffU 48 562949953421311 rfl ha fun a ha=>?_;refine dOff 49 1125899906842623 rfl ha fun a ha=>?_;refine dP 50 2251799813685247 rfl ha (fun _=>yPickT rfl rfl) fun a ha=>?_;refine dZ (by kernel_rfl) ?_;refine ⟨rfl,?_⟩;exact ⟨has5 ha (bY (.inr (.inl hp8))) rfl rfl rfl rfl,hs.drop2⟩
          · rw [hg3] at ha;refine dOff 4 31 rfl ha fun a ha=>?_;refine dOff 5 63 rfl ha fun a ha=>?_;refine dOff 6 127 rfl ha fun a ha=>?_;refine dP 7 255 rfl ha (fun _=>yPickT rfl rfl) fun a ha=>?_;refine dP 8 511 rfl ha (fun _=>yMove rfl) fun a ha=>?_;refine dOff 9 1023 rfl ha fun a ha=>?_;refine dOff 10 2047 rfl ha fun a ha=>?_;refine dOff 11 4095 rfl ha fun a ha=>?_;refine dOff 12 8191 rfl ha fun a ha=>?_;refine dOff 13 16383 rfl ha fun a ha=>?_;refine dP 14 32767 rfl ha (fun _=>yPickT rfl rfl) fun a ha=>?_;refine dP 15 65535 rfl ha (fun _=>yMove rfl) fun a ha=>?_;refine dOff 16 131071 rfl ha fun a ha=>?_;refine dOff 17 262143 rfl ha fun a ha=>?_;refine dOff 18 524287 rfl ha fun a ha=>?_;refine dP 19 1048575 rfl ha (fun _=>yPickT rfl rfl) fun a ha=>?_;refine dP 20 2097151 rfl ha (fun _=>yMove rfl) fun a ha=>?_;refine dOff 21 4194303 rfl ha fun a ha=>?_;refine dOff 22 8388607 rfl ha fun a ha=>?_;refine dOff 23 16777215 rfl ha fun a ha=>?_;refine dP 24 33554431 rfl ha (fun _=>yPickT rfl rfl) fun a ha=>?_;refine dP 25 67108863 rfl ha (fun _=>yMove rfl) fun a ha=>?_;refine dOff 26 134217727 rfl ha fun a ha=>?_;refine dOff 27 268435455 rfl ha fun a ha=>?_;refine dOff 28 536870911 rfl ha fun a ha=>?_;refine dP 29 1073741823 rfl ha (fun _=>yPickT rfl rfl) fun a ha=>?_;refine dP 30 2147483647 rfl ha (fun _=>yMove rfl) fun a ha=>?_;refine dOff 31 4294967295 rfl ha fun a ha=>?_;refine dOff 32 8589934591 rfl ha fun a ha=>?_;refine dOff 33 17179869183 rfl ha fun a ha=>?_;refine dP 34 34359738367 rfl ha (fun _=>yPickT rfl rfl) fun a ha=>?_;refine dP 35 68719476735 rfl ha (fun _=>yMove rfl) fun a ha=>?_;refine dOff 36 137438953471 rfl ha fun a ha=>?_;refine dOff 37 274877906943 rfl ha fun a ha=>?_;refine dOff 38 549755813887 rfl ha fun a ha=>?_;refine dOff 39 1099511627775 rfl ha fun a ha=>?_;refine dOffU 40 2199023255551 rfl ha fun a ha=>?_;refine dOffU 41 4398046511103 rfl ha fun a ha=>?_;refine dOffU 42 8796093022207 rfl ha fun a ha=>?_;refine dOff 43 17592186044415 rfl ha fun a ha=>?_;refine dOff 44 35184372088831 rfl ha fun a ha=>?_;refine dOffU 45 70368744177663 rfl ha fun a ha=>?_;refine dOffU 46 140737488355327 rfl ha fun a ha=>?_;refine dOffU 47 281474976710655 rfl ha fun a ha=>?_;refine dOffU 48 562949953421311 rfl ha fun a ha=>?_;refine dOff 49 1125899906842623 rfl ha fun a ha=>?_;refine dP 50 2251799813685247 rfl ha (fun _=>yPickT rfl rfl) fun a ha=>?_;refine dZ (by kernel_rfl) ?_;refine ⟨rfl,?_⟩;exact ⟨has5 ha (bY (.inl hp3)) rfl rfl rfl rfl,hs.drop2⟩
        rintro a w ⟨ha,hs⟩;refine hK13 _ _ ?_;refine cDec ha rfl (fun hc72=>?_) (fun hc72=>?_)
        · refine wp_seq_k fun K14 hK14=>?_;refine wp_region_lit ?_;refine pY ha (yAssign rfl) fun a ha=>?_;refine pZ ?_;refine hK14 _ _ ?_;refine wp_ret ?_;show bodyPost Tryz.prog Tryz.f17 _ .ret _ _;refine ret1 rfl ha rfl ?_
          (refine ⟨congrArg (Value.int .i64) ?_,hs.drop.drop.drop⟩; have h1z : oneE x = 1:=by (unfold oneE; rw [if_pos hc72])
           have he : actE xs i = 1:=by (rw [actE_at hx,h1z,if_pos (by decide)])
           rw [txn_err hn20 h2 (by omega) (by rw [he]; decide),he])
        · refine wp_skip ?_;refine hK12 _ _ ?_;refine wp_seq_k fun K15 hK15=>?_;refine wp_seq_k fun K16 hK16=>?_;refine wp_region_lit ?_;refine pY ha (yFieldA Tryz.runUnderlying48 rfl Tryz.sizeOf3 rfl rfl) fun a ha=>?_;refine pY ha (yLoadB Tryz.isAgg3 hs rfl pk0 rfl) fun a ha=>?_;refine pY ha (yNeq rfl rfl) fun a ha=>?_;refine pZ ?_;refine hK16 _ _ ?_
          have hE4 : x.kind = 4→oneE x = opE x.ops:=fun h=>by unfold oneE; rw [if_neg hc72,if_pos h]
          refine cNDec ha rfl (fun hc75=>?_) (fun hc75=>?_)
          · refine wp_exit ?_;refine hK10 _ _ ?_;refine wp_region_lit ?_;refine pY ha (yMove rfl) fun a ha=>?_;refine pY ha (yAddN rfl rfl ⟨by omega,by omega⟩) fun a ha=>?_;refine pY ha (yAssign rfl) fun a ha=>?_;refine pZ ?_
            (have h4 : x.kind ≠ 4:=hc75
             have h1z : oneE x = 0:=by (unfold oneE; rw [if_neg hc72,if_neg h4])
             have hz : actE xs i = 0:=by (rw [actE_at hx,h1z,if_neg (by decide),if_neg (fun h=>h4 h.1)])
             have hp:=puts_at hx
             rw [plain_ops hc72 h4] at hp
             exact ⟨i + 1,⟨by omega,fe_next h2 hz,has3 ha rfl (by rw [hp]; rfl) rfl,hs.drop.drop⟩,by omega⟩)
          · refine wp_skip ?_;refine hK15 _ _ ?_;refine wp_seq_k fun K17 hK17=>?_;refine wp_region_lit ?_;refine pY ha (yFieldA Tryz.runUnderlying48 rfl Tryz.sizeOf46 rfl rfl) fun a ha=>?_;refine pY ha (yLoadB Tryz.isAgg46 hs rfl pk0 rfl) fun a ha=>?_;refine pC ha (nCall Tryz.call52 rfl) rfl (ROpCheck_c (xs:=x.ops) hm3 hs pk1) ?_;rintro v w ⟨rfl,hs⟩ a ha;refine pY ha (yAssign rfl) fun a ha=>?_;refine pZ ?_;refine hK17 _ _ ?_;refine wp_seq_k fun K18 hK18=>?_;refine wp_seq_k fun K19 hK19=>?_;refine wp_region_lit ?_;refine pY ha (yMove rfl) fun a ha=>?_;refine pY ha (yNeq rfl rfl) fun a ha=>?_;refine pZ ?_;refine hK19 _ _ ?_;refine cNDec ha rfl (fun hc80=>?_) (fun hc80=>?_)
            · refine wp_seq_k fun K20 hK20=>?_;refine wp_region_lit ?_;refine pY ha (yMove rfl) fun a ha=>?_;refine pY ha (yAssign rfl) fun a ha=>?_;refine pZ ?_;refine hK20 _ _ ?_;refine wp_ret ?_;show bodyPost Tryz.prog Tryz.f17 _ .ret _ _;refine ret1 rfl ha rfl ?_
              (refine ⟨congrArg (Value.int .i64) ?_,hs.drop.drop.drop⟩; have h1z : oneE x = opE x.ops:=hE4 hc75
               rw [txn_err hn20 h2 (by omega) (by rw [actE_at hx,h1z,if_pos hc80]; exact hc80),actE_at hx,h1z,if_pos hc80])
            · have hk4 : x.kind = 4:=hc75
              have hop : opE x.ops = 0:=hc80
              obtain ⟨hop1,hop2⟩:=op_ok hop
              have hqb : putsC x.ops≤100000000000:=by
                have:=putsC_le (B:=1000000000) x.ops (fun c hc=>(hm3 c hc).2)
                have : x.ops.length * 1000000000≤100 * 1000000000:=Nat.mul_le_mul_right _ hop1
                omega
              refine wp_skip ?_;refine hK18 _ _ ?_;refine wp_seq_k fun K21 hK21=>?_;refine wp_seq_k fun K22 hK22=>?_;refine wp_region_lit ?_;refine pY ha (yAssign rfl) fun a ha=>?_;refine pZ ?_;refine hK22 _ _ ?_;refine wp_block ?_;refine loopI (ι:=Nat) (fun k a w=>k≤i∧twinA (xs.take k) x = false∧Has a 121 [(0,.slice (some ⟨b0,off,none⟩) xs.length c),(3,.int .i64 (putsA (xs.take i))),(4,.int .i64 i),(5,.pointer (some ⟨ba,0,none⟩)),(7,.int .i64 k)]∧Sep W w (.blk ba 48 [.int .i64 x.kind,.int .i64 x.id,.int .i64 x.parent,.string x.name,.bool x.dir,.slice A' x.ops.length c']::.rd kComp (.slice A' x.ops.length c') x.ops::.rd kActn (.slice (some ⟨b0,off,none⟩) xs.length c) xs::cs)) (fun k=>i - k) (0) ?_ ?_
              · exact ⟨Nat.zero_le _,rfl,has5 ha rfl rfl rfl rfl rfl,hs⟩
              · rintro k a w ⟨g1,g2,ha,hs⟩;refine wp_seq_k fun K23 hK23=>?_;refine wp_seq_k fun K24 hK24=>?_;refine wp_region_lit ?_;refine pY ha (yMove rfl) fun a ha=>?_;refine pY ha (yMove rfl) fun a ha=>?_;refine pY ha (yLss rfl rfl) fun a ha=>?_;refine pZ ?_;refine hK24 _ _ ?_;refine cDec ha rfl (fun hc84=>?_) (fun hc84=>?_)
                · refine wp_skip ?_;refine hK23 _ _ ?_;refine wp_seq_k fun K25 hK25=>?_;refine wp_block ?_;refine wp_seq_k fun K26 hK26=>?_;obtain ⟨y,hy⟩ : ∃ y,xs[k]? = some y:=⟨_,List.getElem?_eq_getElem (by omega)⟩;obtain ⟨b1,off1,A1,n1,c1,e1,hs⟩:=hs.rd_actn (.there (.there .here)) hy;simp only [Option.some.injEq,Addr.mk.injEq,and_true] at e1;obtain ⟨rfl,rfl⟩:=e1;refine dStart (fun w=>Sep W w _) [] 65535 65535 (by kernel_rfl) (by kernel_rfl) rfl (hs.drew) ?_
                  have hs:=Sep.drew hs
                  generalize World.drew _ = w at hs ⊢;refine dP 0 1 rfl ha (fun _=>yMove rfl) fun a ha=>?_;refine dP 1 3 rfl ha (fun _=>yMove rfl) fun a ha=>?_;refine dP 2 7 rfl ha (fun _=>yIndexA Tryz.runUnderlying22 Tryz.sizeOf48 rfl rfl (by omega) (by omega)) fun a ha=>?_;refine dP 3 15 rfl ha (fun _=>yFieldA Tryz.runUnderlying48 rfl Tryz.sizeOf3 rfl rfl) fun a ha=>?_;refine dT 4 31 rfl ha (fun _ hs=>yLoadR Tryz.isAgg3 hs rfl pk0 rfl) (hs) fun a ha=>?_;refine dP 5 63 rfl ha (fun _=>yEql rfl rfl) fun a ha=>?_;refine dP 6 127 rfl ha (fun _=>yMove rfl) fun a ha=>?_;refine gDec (t:=93) ha rfl (fun hg6 hp6=>?_) (fun hg6 hp6=>?_)
                  · rw [hg6] at ha;refine dOff 7 255 rfl ha fun a ha=>?_;refine dOff 8 511 rfl ha fun a ha=>?_;refine dOff 9 1023 rfl ha fun a ha=>?_;refine dOff 10 2047 rfl ha fun a ha=>?_;refine dOff 11 4095 rfl ha fun a ha=>?_;refine dOff 12 8191 rfl ha fun a ha=>?_;refine dOff 13 16383 rfl ha fun a ha=>?_;refine dOff 14 32767 rfl ha fun a ha=>?_;refine dP 15 65535 rfl ha (fun _=>yPickF rfl rfl) fun a ha=>?_;refine dZ (by kernel_rfl) ?_;refine hK26 _ _ ?_;refine cFalse ha rfl ?_;refine wp_skip ?_;refine hK25 _ _ ?_;refine wp_region_lit ?_;refine pY ha (yMove rfl) fun a ha=>?_;refine pY ha (yAddN rfl rfl ⟨by omega,by omega⟩) fun a ha=>?_;refine pY ha (yAssign rfl) fun a ha=>?_;refine pZ ?_;refine ⟨k + 1,⟨by omega,any_at g2 hy (decide_eq_false ?_),has5 ha rfl rfl rfl rfl rfl,hs.drop.drop⟩,by omega⟩;exact fun h=>hp6 h.1
                  · rw [hg6] at ha;refine dP 7 255 rfl ha (fun _=>yMove rfl) fun a ha=>?_;refine dP 8 511 rfl ha (fun _=>yMove rfl) fun a ha=>?_;refine dP 9 1023 rfl ha (fun _=>yIndexA Tryz.runUnderlying22 Tryz.sizeOf48 rfl rfl (by omega) (by omega)) fun a ha=>?_;refine dP 10 2047 rfl ha (fun _=>yFieldA Tryz.runUnderlying48 rfl Tryz.sizeOf3 rfl rfl) fun a ha=>?_;refine dT 11 4095 rfl ha (fun _ hs=>yLoadR Tryz.isAgg3 hs rfl pk0 rfl) (hs) fun a ha=>?_;refine dP 12 8191 rfl ha (fun _=>yFieldA Tryz.runUnderlying48 rfl Tryz.sizeOf3 rfl rfl) fun a ha=>?_;refine dT 13 16383 rfl ha (fun _ hs=>yLoadB Tryz.isAgg3 hs rfl pk2 rfl) (hs) fun a ha=>?_;refine dP 14 32767 rfl ha (fun _=>yEql rfl rfl) fun a ha=>?_;refine dP 15 65535 rfl ha (fun _=>yPickT rfl rfl) fun a ha=>?_;refine dZ (by kernel_rfl) ?_;refine hK26 _ _ ?_;refine cDec ha rfl (fun hc102=>?_) (fun hc102=>?_)
                    · refine wp_seq_k fun K27 hK27=>?_;refine wp_region_lit ?_;refine pY ha (yAssign rfl) fun a ha=>?_;refine pZ ?_;refine hK27 _ _ ?_;refine wp_ret ?_;show bodyPost Tryz.prog Tryz.f17 _ .ret _ _;refine ret1 rfl ha rfl ?_
                      (refine ⟨congrArg (Value.int .i64) ?_,hs.drop.drop.drop.drop.drop⟩
                       have ht : twinA (xs.take i) x = true:=any_yes (i:=k) (by rw [List.getElem?_take_of_lt (by omega)]; exact hy) (decide_eq_true ⟨hp6,hc102⟩)
                       have he : actE xs i = 1:=by (rw [actE_at hx,hE4 hk4,hop,if_neg (by decide),if_pos ⟨hk4,ht⟩])
                       rw [txn_err hn20 h2 (by omega) (by rw [he]; decide),he])
                    · refine wp_skip ?_;refine hK25 _ _ ?_;refine wp_region_lit ?_;refine pY ha (yMove rfl) fun a ha=>?_;refine pY ha (yAddN rfl rfl ⟨by omega,by omega⟩) fun a ha=>?_;refine pY ha (yAssign rfl) fun a ha=>?_;refine pZ ?_;refine ⟨k + 1,⟨by omega,any_at g2 hy (decide_eq_false ?_),has5 ha rfl rfl rfl rfl rfl,hs.drop.drop⟩,by omega⟩;exact fun h=>hc102 h.2
                · refine wp_exit ?_;refine hK21 _ _ ?_;refine wp_seq_k fun K28 hK28=>?_
                  have hki : k = i:=by omega
                  rw [hki] at g2
                  have hz : actE xs i = 0:=by rw [actE_at hx,hE4 hk4,hop,if_neg (by decide),if_neg (fun h=>by rw [g2] at h; exact Bool.false_ne_true h.2)]
                  refine wp_region_lit ?_;refine pY ha (yAssign rfl) fun a ha=>?_;refine pZ ?_;refine hK28 _ _ ?_;refine wp_block ?_;refine loopI (ι:=Nat) (fun j a w=>j≤x.ops.length∧Has a 121 [(0,.slice (some ⟨b0,off,none⟩) xs.length c),(3,.int .i64 ((putsA (xs.take i) + putsC (x.ops.take j) : Nat) : Int)),(4,.int .i64 i),(5,.pointer (some ⟨ba,0,none⟩)),(8,.int .i64 j)]∧Sep W w (.blk ba 48 [.int .i64 x.kind,.int .i64 x.id,.int .i64 x.parent,.string x.name,.bool x.dir,.slice A' x.ops.length c']::.rd kComp (.slice A' x.ops.length c') x.ops::.rd kActn (.slice (some ⟨b0,off,none⟩) xs.length c) xs::cs)) (fun j=>x.ops.length - j) (0) ?_ ?_
                  · exact ⟨Nat.zero_le _,has5 ha rfl rfl rfl rfl rfl,hs⟩
                  · rintro j a w ⟨q1,ha,hs⟩;refine wp_seq_k fun K29 hK29=>?_;refine wp_seq_k fun K30 hK30=>?_;refine wp_region_lit ?_;refine pY ha (yMove rfl) fun a ha=>?_;refine pY ha (yFieldA Tryz.runUnderlying48 rfl Tryz.sizeOf46 rfl rfl) fun a ha=>?_;refine pY ha (yLoadB Tryz.isAgg46 hs rfl pk0 rfl) fun a ha=>?_;refine pY ha (yLenS Tryz.runUnderlying46 rfl) fun a ha=>?_;refine pY ha (yLss rfl rfl) fun a ha=>?_;refine pZ ?_;refine hK30 _ _ ?_;refine cDec ha rfl (fun hc107=>?_) (fun hc107=>?_)
                    · obtain ⟨y,hy⟩ : ∃ y,x.ops[j]? = some y:=⟨_,List.getElem?_eq_getElem (by omega)⟩;obtain ⟨hy1,hy2⟩:=snd_cnt (hop2 y (List.mem_of_getElem? hy))
                      have hy3:=(hm3 y (List.mem_of_getElem? hy)).2
                      have hcl:=cnt_le y.text.data.toList
                      have hlen : y.text.data.toList.length = y.text.size:=by simp
                      have e1 : putsC (x.ops.take (j + 1)) = putsC (x.ops.take j) + cnt y.text.data.toList:=by rw [List.take_add_one,hy,putsC_append,hy2]; simp [putsC]
                      have hp2:=putsC_le (B:=1000000000) (x.ops.take j) (fun z hz=>(hm3 z (List.mem_of_mem_take hz)).2)
                      rw [List.length_take,Nat.min_eq_left (by omega)] at hp2;obtain ⟨b1,off1,rfl,hs⟩:=hs.rd_comp (.there .here) hy;refine wp_skip ?_;refine hK29 _ _ ?_;refine wp_seq_k fun K31 hK31=>?_;refine wp_block ?_;refine wp_region_lit ?_;refine pY ha (yMove rfl) fun a ha=>?_;refine pY ha (yFieldA Tryz.runUnderlying48 rfl Tryz.sizeOf46 rfl rfl) fun a ha=>?_;refine pY ha (yLoadB Tryz.isAgg46 hs rfl pk1 rfl) fun a ha=>?_;refine pY ha (yMove rfl) fun a ha=>?_;refine pY ha (yIndexA Tryz.runUnderlying46 Tryz.sizeOf45 rfl rfl (by omega) (by omega)) fun a ha=>?_;refine pY ha (yFieldA Tryz.runUnderlying45 rfl Tryz.sizeOf9 rfl rfl) fun a ha=>?_;refine pY ha (yLoadR Tryz.isAgg9 hs rfl pk0 rfl) fun a ha=>?_;refine pC ha (nCall Tryz.call53 rfl) rfl (RCount_c y.text hy1 (by omega) hs) ?_;rintro v w ⟨rfl,hs⟩ a ha;refine pY ha (yAddN rfl rfl ⟨by omega,by omega⟩) fun a ha=>?_;refine pY ha (yAssign rfl) fun a ha=>?_;refine pZ ?_;refine hK31 _ _ ?_;refine wp_region_lit ?_;refine pY ha (yMove rfl) fun a ha=>?_;refine pY ha (yAddN rfl rfl ⟨by omega,by omega⟩) fun a ha=>?_;refine pY ha (yAssign rfl) fun a ha=>?_;refine pZ ?_;refine ⟨j + 1,⟨by omega,has5 ha rfl ?_ rfl rfl rfl,hs.drop⟩,by omega⟩;rw [e1,← Nat.add_assoc]; rfl
                    · refine wp_exit ?_;refine hK10 _ _ ?_;refine wp_region_lit ?_;refine pY ha (yMove rfl) fun a ha=>?_;refine pY ha (yAddN rfl rfl ⟨by omega,by omega⟩) fun a ha=>?_;refine pY ha (yAssign rfl) fun a ha=>?_;refine pZ ?_
                      (have hp:=puts_at hx
                       rw [show x.ops.take j = x.ops from List.take_of_length_le (by omega)] at ha
                       exact ⟨i + 1,⟨by omega,fe_next h2 hz,has3 ha rfl (by rw [hp]; rfl) rfl,hs.drop.drop⟩,by omega⟩)
      · refine wp_exit ?_;refine hK6 _ _ ?_;refine wp_seq_k fun K32 hK32=>?_;refine wp_seq_k fun K33 hK33=>?_;refine wp_region_lit ?_;refine pY ha (yMove rfl) fun a ha=>?_;refine pY ha (yGtr rfl rfl) fun a ha=>?_;refine pZ ?_;refine hK33 _ _ ?_;refine cDec ha rfl (fun hc120=>?_) (fun hc120=>?_)
        · refine wp_seq_k fun K34 hK34=>?_;refine wp_region_lit ?_;refine pY ha (yAssign rfl) fun a ha=>?_;refine pZ ?_;refine hK34 _ _ ?_;refine wp_ret ?_;show bodyPost Tryz.prog Tryz.f17 _ .ret _ _;refine ret1 rfl ha rfl ?_
          (obtain rfl : i = xs.length:=by omega
           refine ⟨congrArg (Value.int .i64) ?_,hs.drop⟩;rw [txn_end hn20 h2];rw [List.take_of_length_le (by omega)] at hc120
           rw [if_pos (by omega)])
        · refine wp_skip ?_;refine hK32 _ _ ?_;refine wp_seq_k fun K35 hK35=>?_;refine wp_region_lit ?_;refine pY ha (yAssign rfl) fun a ha=>?_;refine pZ ?_;refine hK35 _ _ ?_;refine wp_ret ?_;show bodyPost Tryz.prog Tryz.f17 _ .ret _ _;refine ret1 rfl ha rfl ?_
          (obtain rfl : i = xs.length:=by omega
           refine ⟨congrArg (Value.int .i64) ?_,hs.drop⟩;rw [txn_end hn20 h2];rw [List.take_of_length_le (by omega)] at hc120
           rw [if_neg (by omega)])
end
end Go.Proofs.YtnlhbkaieoogfaaGreatDoor

set_option linter.unusedVariables false
set_option linter.unusedSimpArgs false
namespace Go.Proofs.YtnlhbkaieoogfaaGreatDoor
open Go.RowKit
theorem fold_put2 (off : Nat) : ∀ (cs : List Value) (k : Nat) (acc : Array Value),off + k + cs.length≤acc.size→((cs.zipIdx k).foldl (fun acc (p : Value × Nat)=>acc.setIfInBounds (off + p.2) p.1) acc) = (acc.toList.take (off + k)++cs++acc.toList.drop (off + k + cs.length)).toArray:=by
  intro cs
  induction cs with
  | nil=>intro k acc hk; simp
  | cons c r ih=>
    intro k acc hk;simp only [List.length_cons] at hk;simp only [List.zipIdx_cons,List.foldl_cons];rw [ih (k + 1) _ (by simp; omega)]
    congr 1
    simp only [Array.toList_setIfInBounds,List.length_cons,← Nat.add_assoc];rw [List.take_succ_eq_append_getElem (by simp; omega),List.take_set_of_le (by omega),List.drop_set_of_lt (by omega)]
    simp [show off + k + 1 + r.length = off + k + r.length + 1 by omega]
theorem fill_two {size : Nat} {cells : Array Value} {c0 c1 : List Value} (h0 : c0.length = size) (h1 : c1.length = size) (hc : cells.size = 2 * size) : Instr.fill (fun i=>some (i * size,size)) cells [(0,.agg c0.toArray),(1,.agg c1.toArray)] = some (c0++c1).toArray:=by
  subst h0
  have e0:=fold_put2 0 c0 0 cells (by omega)
  have e1:=fold_put2 c0.length c1 0 (c0++cells.toList.drop c0.length).toArray (by simp; omega)
  have e2 : List.drop (c0.length + c1.length) (c0++cells.toList.drop c0.length) = []:=List.drop_of_length_le (by simp; omega)
  simp [e2] at e0 e1
  have h6 : ¬ cells.size < c0.length:=by omega
  have h7 : ¬ c0.length + (cells.size - c0.length) < c0.length + c0.length:=by omega
  simp [Instr.fill,Value.cells,h1,hc,e0,h6,h7,e1]
  omega
theorem mk2 {P : Program} {U E : TypeId} {zv : Value} {sz : Nat} {c0 c1 : List Value} (w : World) (hu : ∀ w,(underlying U).run P w = .ok (.slice E) w) (hz : ∀ w,(sizeOf E).run P w = .ok sz w) (hv : ∀ w,(zeroValue E).run P w = .ok zv w) (hlim : 2 * sz≤16777216) (hpos : 0 < sz) (h0 : c0.length = sz) (h1 : c1.length = sz) {ρ : Operand→Value} {x0 x1 : Operand} (hx : ρ x0 = .agg c0.toArray) (hy : ρ x1 = .agg c1.toArray) :
    (do pure (Next.value (← Instr.buildSlice U 2 (#[(0,x0),(1,x1)].map fun (i,x)=>(i,ρ x)))) : Sem Next).run P w = .ok (.value (.slice (some ⟨w.heap.size,0,none⟩) 2 2)) (w.alloc (.cells (c0++c1).toArray E)):=by
  have h2 : ¬ 16777216 < 2 * sz:=by omega
  have h3 : sz ≠ 0:=by omega
  have h4:=fill_two (cells:=(Array.range (2 * sz)).map (zv.cells[· % zv.cells.size]!)) h0 h1 (by simp)
  have h5 : ¬ 2 * sz = 0:=by omega
  simp [Instr.buildSlice,hu,hz,hv,hx,hy,newRow,h2,h3,h4,h5]
section
variable {W w : World} {cs r r2 r3 : List Ch}
theorem Kd.sl_nil {α : Type} (d : Kd α) (Z : Hp) : d.sl Z (.slice none 0 0) []:=⟨none,0,rfl,Nat.le_refl _,by unfold maxLen; omega,fun h=>by simp at h⟩
theorem Sep.one_rd {α : Type} {d : Kd α} {e : α} {es : List Value} {b : Nat} {T : TypeId} (hs : Sep W w cs) (hk : Pick cs (.blk b T es) r) (hk2 : Pick r (.el d e es) r2) : Sep W w (.rd d (.slice (some ⟨b,0,none⟩) 1 1) [e]::r2):=by
  have h1:=(hs.perm (hk.perm.trans (hk2.perm.cons _))).join
  refine h1.shut fun Z H hd hc=>?_;obtain ⟨H1,H2,g1,g2,gd,ho,hR⟩:=hc;refine ⟨_,1,rfl,Nat.le_refl _,by unfold maxLen; omega,fun _=>⟨b,0,es.toArray,T,(0,0),rfl,Hp.le_un_right hd _ _ (g1 _ _ ho),fun i x hx=>?_⟩⟩
  match i,hx with
  | 0,hx=>
    simp at hx
    subst hx;exact ⟨es,d.mono (Hp.le_un_left _ _) hR,fun j u hj=>by simpa using hj⟩
  | i + 1,hx=>simp at hx
theorem Sep.two_rd {α : Type} {d : Kd α} {e1 e2 : α} {es1 es2 es : List Value} {b : Nat} {T : TypeId} (he : es = es1++es2) (hs : Sep W w cs) (hk : Pick cs (.blk b T es) r) (hk2 : Pick r (.el d e1 es1) r2) (hk3 : Pick r2 (.el d e2 es2) r3) : Sep W w (.rd d (.slice (some ⟨b,0,none⟩) 2 2) [e1,e2]::r3):=by
  subst he
  have h1:=((hs.perm (hk.perm.trans ((hk2.perm.trans (hk3.perm.cons _)).cons _))))
  have hl1 : es1.length = d.sz:=h1.know (.there .here) (fun Z _ hp=>d.len hp)
  have h2:=h1.with_ro2 (q:=fun Z=>d.R Z e1 es1∧d.R Z e2 es2) (mq:=fun _ _ h ⟨x,y⟩=>⟨d.mono h x,d.mono h y⟩) (.there .here) (.there (.there .here)) fun Z x y=>⟨x,y⟩
  have h3:=((h2.pick (.there (.there .here))).drop.pick (.there (.there .here))).drop
  have h4:=(h3.perm (List.Perm.swap _ _ _)).join
  refine h4.shut fun Z H hd hc=>?_;obtain ⟨H1,H2,g1,g2,gd,ho,hR⟩:=hc;refine ⟨_,2,rfl,Nat.le_refl _,by unfold maxLen; omega,fun _=>⟨b,0,(es1++es2).toArray,T,(0,0),rfl,Hp.le_un_right hd _ _ (g1 _ _ ho),fun i x hx=>?_⟩⟩
  match i,hx with
  | 0,hx=>
    simp at hx
    subst hx;refine ⟨es1,d.mono (Hp.le_un_left _ _) hR.1,fun j u hj=>?_⟩
    have hj2:=(List.getElem?_eq_some_iff.1 hj).1
    simpa [List.getElem?_append,hj2] using hj
  | 1,hx=>
    simp at hx
    subst hx;refine ⟨es2,d.mono (Hp.le_un_left _ _) hR.2,fun j u hj=>?_⟩
    have h5 : ¬ d.sz + j < es1.length:=by omega
    simp [List.getElem?_append,h5,hl1,hj]
  | i + 2,hx=>simp at hx
end
end Go.Proofs.YtnlhbkaieoogfaaGreatDoor

set_option linter.unusedVariables false
set_option linter.unusedSimpArgs false
namespace Go.Proofs.YtnlhbkaieoogfaaGreatDoor
open Go.RowKit Go.Lib Go.Proofs.YtnlhbkaieoogfaaGreatDoorW.PrintLast
theorem bldWTxt26_0_1_2_5 {w : World} {l : List (Nat × Value)} {T : TypeId} {x0 x1 x2 x5 : Operand} {v0 : Value} (h0 : ev l x0 = some v0) {v1 : Value} (h1 : ev l x1 = some v1) {v2 : Value} (h2 : ev l x2 = some v2) {v5 : Value} (h5 : ev l x5 = some v5) (o0 : v0.cells = #[v0]:=by rfl) (o1 : v1.cells = #[v1]:=by rfl) (o2 : v2.cells = #[v2]:=by rfl) (o5 : v5.cells = #[v5]:=by rfl) : Yl Tryz.prog w l (.build 26 #[(0,x0),(1,x1),(2,x2),(5,x5)]) T (.agg #[v0,v1,v2,.int .i64 0,.int .i64 0,v5,.slice none 0 0,.slice none 0 0,.int .i64 0]):=fun ρ o h ho _=>by
  have hf : Instr.fill (fun i=>([(0,1),(1,1),(2,1),(3,1),(4,1),(5,1),(6,1),(7,1),(8,1)] : List (Nat × Nat))[i]?) #[.int .i64 0,.int .i64 0,.int .i64 0,.int .i64 0,.int .i64 0,.slice none 0 0,.slice none 0 0,.slice none 0 0,.int .i64 0] [(0,v0),(1,v1),(2,v2),(5,v5)] = some #[v0,v1,v2,.int .i64 0,.int .i64 0,v5,.slice none 0 0,.slice none 0 0,.int .i64 0]:=by
    refine (fill_v o0 rfl (by simp)).trans ?_;refine (fill_v o1 rfl (by simp)).trans ?_;refine (fill_v o2 rfl (by simp)).trans ?_;refine (fill_v o5 rfl (by simp)).trans ?_
    simp [Instr.fill]
  unfold execOp; rw [ho]
  simp [h _ _ h0,h _ _ h1,h _ _ h2,h _ _ h5,Instr.build,Tryz.zeroValue26,Tryz.runUnderlying26,Tryz.sizeOf22,Tryz.sizeOf23,Tryz.sizeOf24,Tryz.sizeOf3,agg_cells,hf]
theorem bldWTxt26_0_3_7 {w : World} {l : List (Nat × Value)} {T : TypeId} {x0 x3 x7 : Operand} {v0 : Value} (h0 : ev l x0 = some v0) {v3 : Value} (h3 : ev l x3 = some v3) {v7 : Value} (h7 : ev l x7 = some v7) (o0 : v0.cells = #[v0]:=by rfl) (o3 : v3.cells = #[v3]:=by rfl) (o7 : v7.cells = #[v7]:=by rfl) : Yl Tryz.prog w l (.build 26 #[(0,x0),(3,x3),(7,x7)]) T (.agg #[v0,.int .i64 0,.int .i64 0,v3,.int .i64 0,.slice none 0 0,.slice none 0 0,v7,.int .i64 0]):=fun ρ o h ho _=>by
  have hf : Instr.fill (fun i=>([(0,1),(1,1),(2,1),(3,1),(4,1),(5,1),(6,1),(7,1),(8,1)] : List (Nat × Nat))[i]?) #[.int .i64 0,.int .i64 0,.int .i64 0,.int .i64 0,.int .i64 0,.slice none 0 0,.slice none 0 0,.slice none 0 0,.int .i64 0] [(0,v0),(3,v3),(7,v7)] = some #[v0,.int .i64 0,.int .i64 0,v3,.int .i64 0,.slice none 0 0,.slice none 0 0,v7,.int .i64 0]:=by
    refine (fill_v o0 rfl (by simp)).trans ?_;refine (fill_v o3 rfl (by simp)).trans ?_;refine (fill_v o7 rfl (by simp)).trans ?_
    simp [Instr.fill]
  unfold execOp; rw [ho]
  simp [h _ _ h0,h _ _ h3,h _ _ h7,Instr.build,Tryz.zeroValue26,Tryz.runUnderlying26,Tryz.sizeOf22,Tryz.sizeOf23,Tryz.sizeOf24,Tryz.sizeOf3,agg_cells,hf]
theorem bldWTxt45_0_2 {w : World} {l : List (Nat × Value)} {T : TypeId} {x0 x2 : Operand} {v0 : Value} (h0 : ev l x0 = some v0) {v2 : Value} (h2 : ev l x2 = some v2) (o0 : v0.cells = #[v0]:=by rfl) (o2 : v2.cells = #[v2]:=by rfl) : Yl Tryz.prog w l (.build 45 #[(0,x0),(2,x2)]) T (.agg #[v0,.int .i64 0,v2]):=fun ρ o h ho _=>by
  have hf : Instr.fill (fun i=>([(0,1),(1,1),(2,1)] : List (Nat × Nat))[i]?) #[.int .i64 0,.int .i64 0,.string ⟨#[]⟩] [(0,v0),(2,v2)] = some #[v0,.int .i64 0,v2]:=by
    refine (fill_v o0 rfl (by simp)).trans ?_;refine (fill_v o2 rfl (by simp)).trans ?_
    simp [Instr.fill]
  unfold execOp; rw [ho]
  simp [h _ _ h0,h _ _ h2,Instr.build,Tryz.zeroValue45,Tryz.runUnderlying45,Tryz.sizeOf3,Tryz.sizeOf9,agg_cells,hf]
theorem bldWTxt48_0_1_3 {w : World} {l : List (Nat × Value)} {T : TypeId} {x0 x1 x3 : Operand} {v0 : Value} (h0 : ev l x0 = some v0) {v1 : Value} (h1 : ev l x1 = some v1) {v3 : Value} (h3 : ev l x3 = some v3) (o0 : v0.cells = #[v0]:=by rfl) (o1 : v1.cells = #[v1]:=by rfl) (o3 : v3.cells = #[v3]:=by rfl) : Yl Tryz.prog w l (.build 48 #[(0,x0),(1,x1),(3,x3)]) T (.agg #[v0,v1,.int .i64 0,v3,.bool false,.slice none 0 0]):=fun ρ o h ho _=>by
  have hf : Instr.fill (fun i=>([(0,1),(1,1),(2,1),(3,1),(4,1),(5,1)] : List (Nat × Nat))[i]?) #[.int .i64 0,.int .i64 0,.int .i64 0,.string ⟨#[]⟩,.bool false,.slice none 0 0] [(0,v0),(1,v1),(3,v3)] = some #[v0,v1,.int .i64 0,v3,.bool false,.slice none 0 0]:=by
    refine (fill_v o0 rfl (by simp)).trans ?_;refine (fill_v o1 rfl (by simp)).trans ?_;refine (fill_v o3 rfl (by simp)).trans ?_
    simp [Instr.fill]
  unfold execOp; rw [ho]
  simp [h _ _ h0,h _ _ h1,h _ _ h3,Instr.build,Tryz.zeroValue48,Tryz.runUnderlying48,Tryz.sizeOf3,Tryz.sizeOf4,Tryz.sizeOf46,Tryz.sizeOf9,agg_cells,hf]
theorem bldWTxt48_0_1_5 {w : World} {l : List (Nat × Value)} {T : TypeId} {x0 x1 x5 : Operand} {v0 : Value} (h0 : ev l x0 = some v0) {v1 : Value} (h1 : ev l x1 = some v1) {v5 : Value} (h5 : ev l x5 = some v5) (o0 : v0.cells = #[v0]:=by rfl) (o1 : v1.cells = #[v1]:=by rfl) (o5 : v5.cells = #[v5]:=by rfl) : Yl Tryz.prog w l (.build 48 #[(0,x0),(1,x1),(5,x5)]) T (.agg #[v0,v1,.int .i64 0,.string ⟨#[]⟩,.bool false,v5]):=fun ρ o h ho _=>by
  have hf : Instr.fill (fun i=>([(0,1),(1,1),(2,1),(3,1),(4,1),(5,1)] : List (Nat × Nat))[i]?) #[.int .i64 0,.int .i64 0,.int .i64 0,.string ⟨#[]⟩,.bool false,.slice none 0 0] [(0,v0),(1,v1),(5,v5)] = some #[v0,v1,.int .i64 0,.string ⟨#[]⟩,.bool false,v5]:=by
    refine (fill_v o0 rfl (by simp)).trans ?_;refine (fill_v o1 rfl (by simp)).trans ?_;refine (fill_v o5 rfl (by simp)).trans ?_
    simp [Instr.fill]
  unfold execOp; rw [ho]
  simp [h _ _ h0,h _ _ h1,h _ _ h5,Instr.build,Tryz.zeroValue48,Tryz.runUnderlying48,Tryz.sizeOf3,Tryz.sizeOf4,Tryz.sizeOf46,Tryz.sizeOf9,agg_cells,hf]
theorem bldWTxt50_0_2_4 {w : World} {l : List (Nat × Value)} {T : TypeId} {x0 x2 x4 : Operand} {v0 : Value} (h0 : ev l x0 = some v0) {v2 : Value} (h2 : ev l x2 = some v2) {v4 : Value} (h4 : ev l x4 = some v4) (o0 : v0.cells = #[v0]:=by rfl) (o2 : v2.cells = #[v2]:=by rfl) (o4 : v4.cells = #[v4]:=by rfl) : Yl Tryz.prog w l (.build 50 #[(0,x0),(2,x2),(4,x4)]) T (.agg #[v0,.int .i64 0,v2,.bool false,v4]):=fun ρ o h ho _=>by
  have hf : Instr.fill (fun i=>([(0,1),(1,1),(2,1),(3,1),(4,1)] : List (Nat × Nat))[i]?) #[.int .i64 0,.int .i64 0,.string ⟨#[]⟩,.bool false,.string ⟨#[]⟩] [(0,v0),(2,v2),(4,v4)] = some #[v0,.int .i64 0,v2,.bool false,v4]:=by
    refine (fill_v o0 rfl (by simp)).trans ?_;refine (fill_v o2 rfl (by simp)).trans ?_;refine (fill_v o4 rfl (by simp)).trans ?_
    simp [Instr.fill]
  unfold execOp; rw [ho]
  simp [h _ _ h0,h _ _ h2,h _ _ h4,Instr.build,Tryz.zeroValue50,Tryz.runUnderlying50,Tryz.sizeOf3,Tryz.sizeOf4,Tryz.sizeOf9,agg_cells,hf]
theorem bslWTxt22_2_0_1 {w : World} {l : List (Nat × Value)} {T : TypeId} {x0 x1 : Operand} {c0 c1 : List Value} (h0 : ev l x0 = some (.agg c0.toArray)) (h1 : ev l x1 = some (.agg c1.toArray)) (n0 : c0.length = 6:=by rfl) (n1 : c1.length = 6:=by rfl) : Mk Tryz.prog w l (.buildSlice 22 2 #[(0,x0),(1,x1)]) T 48 2 (c0++c1):=fun ρ o h ho _=>by
  unfold execOp; rw [ho];exact mk2 (P:=Tryz.prog) w Tryz.runUnderlying22 Tryz.sizeOf48 Tryz.zeroValue48 (by decide) (by decide) n0 n1 (h _ _ h0) (h _ _ h1)
theorem bslWTxt24_1_0 {w : World} {l : List (Nat × Value)} {T : TypeId} {x0 : Operand} {c0 : List Value} (h0 : ev l x0 = some (.agg c0.toArray)) (n0 : c0.length = 5:=by rfl) : Mk Tryz.prog w l (.buildSlice 24 1 #[(0,x0)]) T 50 1 c0:=fun ρ o h ho _=>by
  unfold execOp; rw [ho];exact mk1 (P:=Tryz.prog) w Tryz.runUnderlying24 Tryz.sizeOf50 Tryz.zeroValue50 (by decide) (by decide) n0 (h _ _ h0)
theorem bslWTxt46_1_0 {w : World} {l : List (Nat × Value)} {T : TypeId} {x0 : Operand} {c0 : List Value} (h0 : ev l x0 = some (.agg c0.toArray)) (n0 : c0.length = 3:=by rfl) : Mk Tryz.prog w l (.buildSlice 46 1 #[(0,x0)]) T 45 1 c0:=fun ρ o h ho _=>by
  unfold execOp; rw [ho];exact mk1 (P:=Tryz.prog) w Tryz.runUnderlying46 Tryz.sizeOf45 Tryz.zeroValue45 (by decide) (by decide) n0 (h _ _ h0)
def txA (id : Int) (s n : ByteArray) : List Actn:=[⟨4,id,0,emp,false,[⟨2,0,s⟩]⟩,⟨1,7,0,n,false,[]⟩]
def txM (id : Int) (s n : ByteArray) : Msg:=⟨2,1,1,0,0,txA id s n,[],[],0⟩
def txN (s n : ByteArray) : List Nod:=[⟨7,0,n,false,s⟩]
def txT (s n : ByteArray) : Msg:=⟨8,0,0,3,0,[],[],txN s n,0⟩
theorem tx_len (id : Int) (s n : ByteArray) (hs : s.size≤500) (hn : n.size≤50) : (wMsg (txM id s n)).1.length≤60000∧(wMsg (txT s n)).1.length≤60000:=by
  have h1:=wMsg_len (txM id s n)
  have h2:=wMsg_len (txT s n)
  have he : emp.size = 0:=rfl
  simp only [txM,txT,txA,txN,tActns,tCmts,tNods,tComps,List.map_nil,List.map_cons,List.sum_nil,List.sum_cons,he] at h1 h2;simp only [txM,txT,txA,txN]
  omega
theorem tx_out {m : Msg} (h : (wMsg m).1.length≤60000) : (bOut m).length≤60000:=by
  unfold bOut; split
  · simp
  · exact h
theorem tx_msg (id : Int) (s n : ByteArray) (hs : s.size≤500) (hn : n.size≤50) : msgE (txM id s n) = txnE (txA id s n):=by
  have hb:=tx_out (tx_len id s n hs hn).1
  have hp : txM id s n = plainM (txM id s n):=rfl
  unfold msgE
  rw [if_neg (by
    simp only [not_or]
    exact ⟨by show ¬ (2 : Int) < 1; decide,by show ¬ (2 : Int) > 9; decide,fun h=>h hp,by show ¬ fits 1 = false; decide,by show ¬ fits 1 = false; decide,by show ¬ fits 0 = false; decide,by show ¬ fits 0 = false; decide,by show ¬ fits 0 = false; decide⟩)]
  by_cases h : txnE (txM id s n).acts ≠ 0
  · rw [if_pos h]; rfl
  · rw [if_neg h,if_neg (by show ¬ cmtsE [] ≠ 0; decide),if_neg (by show ¬ nodsE [] ≠ 0; decide),if_neg (by omega)];exact (Classical.not_not.1 h).symm
theorem tx_tree (s n : ByteArray) (hs : s.size≤500) (hn : n.size≤50) : msgE (txT s n) = if loadOk (txN s n) = true then 0 else 1:=by
  have hb:=tx_out (tx_len 0 s n hs hn).2
  have hp : txT s n = plainM (txT s n):=rfl
  unfold msgE
  rw [if_neg (by
    simp only [not_or]
    exact ⟨by show ¬ (8 : Int) < 1; decide,by show ¬ (8 : Int) > 9; decide,fun h=>h hp,by show ¬ fits 0 = false; decide,by show ¬ fits 0 = false; decide,by show ¬ fits 3 = false; decide,by show ¬ fits 0 = false; decide,by show ¬ fits 0 = false; decide⟩)]
  have hnd : nodsE (txT s n).nodes = if loadOk (txN s n) = true then 0 else 1:=by
    unfold nodsE;rw [if_neg (by show ¬ 1 > 100; decide)]; rfl
  rw [if_neg (by show ¬ txnE [] ≠ 0; decide),if_neg (by show ¬ cmtsE [] ≠ 0; decide),hnd]
  split
  · rw [if_neg (by decide),if_neg (by omega)]
  · rw [if_pos (by decide)]
theorem tx_m1 (id : Int) (s n : ByteArray) (hs : s.size≤500) (hn : n.size≤50) : mM (txM id s n):=by
  have he : emp.size = 0:=rfl
  simp [mM,i64,mA,mC,shortM,txM,txA,he]
  omega
theorem tx_m2 (s n : ByteArray) (hs : s.size≤500) (hn : n.size≤50) : mM (txT s n):=by
  simp [mM,i64,mN,shortM,txT,txN]
  omega
theorem enc_2 (m : Msg) : (encM m).2 = msgE m:=by
  unfold encM
  split
  · rfl
  · rename_i h; exact (Classical.not_not.1 h).symm
theorem enc_back {m : Msg} (h : msgE m = 0) : decM (encM m).1 = (m,0):=by
  have : encM m = (bOut m,0):=by unfold encM; rw [if_neg (by simpa using h)]
  rw [this];exact dec_back h
section
variable {W w : World} {cs r r2 r3 : List Ch}
theorem WireTexts_c (hT : Tabs W) (s n : ByteArray) (id : Int) (hs : Sep W w cs) :
    Calls P 4 #[.string s,.string n,.int .i64 id] w (Rt fun v w'=>v = .bool true∧∃ rs,Sep W w' rs):=by
  refine enter Tryz.func4 Tryz.ntmps4 rfl rfl fun a (ha : Has a 149 [(0,_),(1,_),(2,_)])=>?_;refine wp_seq_k fun K1 hK1=>?_;refine wp_region_lit ?_;refine pY ha (yAssign rfl) fun a ha=>?_;refine pZ ?_;refine hK1 _ _ ?_;refine wp_seq_k fun K2 hK2=>?_;refine wp_seq_k fun K3 hK3=>?_;refine wp_region_lit ?_;refine pY ha (yMove rfl) fun a ha=>?_;refine pY ha (yLenStr Tryz.runUnderlying9 rfl) fun a ha=>?_;refine pY ha (yGtr rfl rfl) fun a ha=>?_;refine pY ha (yMove rfl) fun a ha=>?_;refine gDec (t:=23) ha rfl (fun hg3 hp3=>?_) (fun hg3 hp3=>?_)
  · rw [hg3] at ha;refine gOn ha ?_;refine pY ha (yMove rfl) fun a ha=>?_;refine gOn ha ?_;refine pY ha (yLenStr Tryz.runUnderlying9 rfl) fun a ha=>?_;refine gOn ha ?_;refine pY ha (yGtr rfl rfl) fun a ha=>?_;refine pY ha (yPickF rfl rfl) fun a ha=>?_;refine pZ ?_;refine hK3 _ _ ?_;refine cDec ha rfl (fun hc27=>?_) (fun hc27=>?_)
    · refine wp_seq_k fun K4 hK4=>?_;refine wp_region_lit ?_;refine pC ha (nCall Tryz.call6 rfl) rfl (awake18_c hT hs) ?_;rintro v w ⟨rfl,hs⟩ a ha;refine pY ha (yAssign rfl) fun a ha=>?_;refine pZ ?_;refine hK4 _ _ ?_;refine wp_ret ?_;show bodyPost Tryz.prog Tryz.f4 _ .ret _ _;refine ret1 rfl ha rfl ?_;exact ⟨rfl,_,hs⟩
    · have hsz : s.size≤500:=by omega
      have hnz : n.size≤50:=by omega
      obtain ⟨hl1,hl2⟩:=tx_len id s n hsz hnz
      have hm1:=tx_m1 id s n hsz hnz
      have hm2:=tx_m2 s n hsz hnz
      have hma : ∀ x ∈ txA id s n,mA x:=hm1.2.1
      have hmn : ∀ x ∈ txN s n,mN x:=hm2.2.2.2.1
      have he1:=tx_msg id s n hsz hnz
      have he2:=tx_tree s n hsz hnz
      refine wp_skip ?_;refine hK2 _ _ ?_;refine wp_seq_k fun K5 hK5=>?_;refine wp_region_lit ?_;refine pY ha (yMove rfl) fun a ha=>?_;refine pY ha (yMove rfl) fun a ha=>?_;refine pY ha (bldWTxt45_0_2 rfl rfl) fun a ha=>?_;refine pMake ha (bslWTxt46_1_0 rfl) hs rfl fun bo w hs a ha=>?_
      have hs:=(hs.add (x:=.el kComp ⟨2,0,s⟩ [.int .i64 2,.int .i64 0,.string s]) (fun Z=>rfl)).one_rd (.there .here) .here
      refine pY ha (bldWTxt48_0_1_5 rfl rfl rfl) fun a ha=>?_;refine pAlloc (zs:=[.int .i64 0,.int .i64 0,.int .i64 0,.string ⟨#[]⟩,.bool false,.slice none 0 0]) ha Tryz.zeroValue48 rfl hs rfl fun b7 w hs a ha=>?_;refine pStoreA ha Tryz.sizeOf48 hs rfl rfl pk0 rfl rfl rfl fun w hs=>?_;refine pZ ?_;refine hK5 _ _ ?_;refine wp_seq_k fun K6 hK6=>?_;refine wp_region_lit ?_;refine pY ha (yLoadBA Tryz.isAgg48 Tryz.sizeOf48 hs rfl pk0 rfl) fun a ha=>?_;refine pY ha (yMove rfl) fun a ha=>?_;refine pY ha (bldWTxt48_0_1_3 rfl rfl rfl) fun a ha=>?_;refine pMake ha (bslWTxt22_2_0_1 rfl rfl) hs rfl fun ba w hs a ha=>?_;have hs:=hs.with_ro (p:=fun Z=>kComp.sl Z (.slice (some ⟨bo,0,none⟩) 1 1) [⟨2,0,s⟩]) pk2 (q:=fun Z=>kActn.R Z ⟨4,id,0,emp,false,[⟨2,0,s⟩]⟩ [.int .i64 4,.int .i64 id,.int .i64 0,.string emp,.bool false,.slice (some ⟨bo,0,none⟩) 1 1]) (m':=fun _ _ h=>kActn.mono h) (fun Z hp=>⟨_,_,_,rfl,hp⟩);have hs:=hs.add (x:=.el kActn ⟨1,7,0,n,false,[]⟩ [.int .i64 1,.int .i64 7,.int .i64 0,.string n,.bool false,.slice none 0 0]) (fun Z=>⟨none,0,0,rfl,Kd.sl_nil _ _⟩);have hs:=hs.two_rd (d:=kActn) (e1:=⟨4,id,0,emp,false,[⟨2,0,s⟩]⟩) (e2:=⟨1,7,0,n,false,[]⟩) (es1:=[.int .i64 4,.int .i64 id,.int .i64 0,.string emp,.bool false,.slice (some ⟨bo,0,none⟩) 1 1]) (es2:=[.int .i64 1,.int .i64 7,.int .i64 0,.string n,.bool false,.slice none 0 0]) rfl (show Pick _ (.blk ba _ _) _ from pk2) pk1 pk0;refine pY ha (bldWTxt26_0_1_2_5 rfl rfl rfl rfl) fun a ha=>?_;refine pAlloc (zs:=[.int .i64 0,.int .i64 0,.int .i64 0,.int .i64 0,.int .i64 0,.slice none 0 0,.slice none 0 0,.slice none 0 0,.int .i64 0]) ha Tryz.zeroValue26 rfl hs rfl fun b8 w hs a ha=>?_;refine pStoreA ha Tryz.sizeOf26 hs rfl rfl pk0 rfl rfl rfl fun w hs=>?_;refine pZ ?_;refine hK6 _ _ ?_;refine wp_seq_k fun K7 hK7=>?_;refine wp_region_lit ?_;refine pY ha (yMove rfl) fun a ha=>?_;refine pY ha (yMove rfl) fun a ha=>?_;refine pY ha (bldWTxt50_0_2_4 rfl rfl rfl) fun a ha=>?_;refine pMake ha (bslWTxt24_1_0 rfl) hs rfl fun bn w hs a ha=>?_
      have hs:=(hs.add (x:=.el kNod ⟨7,0,n,false,s⟩ [.int .i64 7,.int .i64 0,.string n,.bool false,.string s]) (fun Z=>rfl)).one_rd (.there .here) .here
      refine pY ha (bldWTxt26_0_3_7 rfl rfl rfl) fun a ha=>?_;refine pAlloc (zs:=[.int .i64 0,.int .i64 0,.int .i64 0,.int .i64 0,.int .i64 0,.slice none 0 0,.slice none 0 0,.slice none 0 0,.int .i64 0]) ha Tryz.zeroValue26 rfl hs rfl fun b9 w hs a ha=>?_;refine pStoreA ha Tryz.sizeOf26 hs rfl rfl pk0 rfl rfl rfl fun w hs=>?_;refine pZ ?_;refine hK7 _ _ ?_;refine wp_seq_k fun K8 hK8=>?_
      have hs:=(hs.cpR (show Pick _ (.rd kActn (.slice (some ⟨ba,0,none⟩) 2 2) (txA id s n)) _ from pk3))
      have hs:=((hs.rd_nil (d:=kNod)).rd_nil (d:=kCmt)).mk_msg (x:=txM id s n) (show Pick _ (.rd kActn (.slice (some ⟨ba,0,none⟩) 2 2) _) _ from pk2) .here .here
      refine wp_region_lit ?_;refine pY ha (yLoadBA Tryz.isAgg26 Tryz.sizeOf26 hs rfl pk3 rfl) fun a ha=>?_;refine pC ha (nCall Tryz.call7 rfl) rfl (Encode_c (x:=txM id s n) hT hm1 (by omega) hs pk0) ?_;rintro v w ⟨A1,c1,rfl,hs⟩ a ha;refine pY ha (yMove rfl) fun a ha=>?_;refine pY ha (yExtract rfl rfl) fun a ha=>?_;refine pY ha (yExtract rfl rfl) fun a ha=>?_;refine pY ha (yAssign rfl) fun a ha=>?_;refine pY ha (yAssign rfl) fun a ha=>?_;refine pZ ?_;refine hK8 _ _ ?_;refine wp_seq_k fun K9 hK9=>?_
      have hs:=(hs.cpR (show Pick _ (.rd kNod (.slice (some ⟨bn,0,none⟩) 1 1) (txN s n)) _ from pk3))
      have hs:=((hs.rd_nil (d:=kCmt)).rd_nil (d:=kActn)).mk_msg (x:=txT s n) .here .here (show Pick _ (.rd kNod (.slice (some ⟨bn,0,none⟩) 1 1) _) _ from pk0)
      refine wp_region_lit ?_;refine pY ha (yLoadBA Tryz.isAgg26 Tryz.sizeOf26 hs rfl pk3 rfl) fun a ha=>?_;refine pC ha (nCall Tryz.call7 rfl) rfl (Encode_c (x:=txT s n) hT hm2 (by omega) hs pk0) ?_;rintro v w ⟨A2,c2,rfl,hs⟩ a ha;refine pY ha (yMove rfl) fun a ha=>?_;refine pY ha (yExtract rfl rfl) fun a ha=>?_;refine pY ha (yExtract rfl rfl) fun a ha=>?_;refine pY ha (yAssign rfl) fun a ha=>?_;refine pY ha (yAssign rfl) fun a ha=>?_;refine pZ ?_;refine hK9 _ _ ?_;refine wp_seq_k fun K10 hK10=>?_;rw [enc_2,enc_2,he1,he2] at ha;refine wp_region_lit ?_;refine pY ha (yFieldA Tryz.runUnderlying26 rfl Tryz.sizeOf22 rfl rfl) fun a ha=>?_;refine pY ha (yLoadB Tryz.isAgg22 hs rfl pk6 rfl) fun a ha=>?_;refine pC ha (nCall Tryz.call17 rfl) rfl (RTxn_c (xs:=txA id s n) hma hs (show Pick _ (.rd kActn (.slice (some ⟨ba,0,none⟩) 2 2) (txA id s n)) _ from pk7)) ?_;rintro v w ⟨rfl,hs⟩ a ha;refine pY ha (yEql rfl rfl) fun a ha=>?_;refine pY ha (yAssign rfl) fun a ha=>?_;refine pZ ?_;refine hK10 _ _ ?_;refine wp_seq_k fun K11 hK11=>?_;refine wp_region_lit ?_;refine pY ha (yFieldA Tryz.runUnderlying26 rfl Tryz.sizeOf24 rfl rfl) fun a ha=>?_;refine pY ha (yLoadB Tryz.isAgg24 hs rfl pk4 rfl) fun a ha=>?_;refine pC ha (nCall Tryz.call18 rfl) rfl (Sound_c (xs:=txN s n) hmn hs (show Pick _ (.rd kNod (.slice (some ⟨bn,0,none⟩) 1 1) (txN s n)) _ from pk5)) ?_;rintro v w ⟨rfl,hs⟩ a ha;rw [sound_load] at ha
      have hdl : decide ((if loadOk (txN s n) = true then (0 : Int) else 1) = 0) = loadOk (txN s n):=by cases loadOk (txN s n) <;> rfl
      refine pY ha (yAssign rfl) fun a ha=>?_;refine pZ ?_;refine hK11 _ _ ?_;refine wp_seq_k fun K12 hK12=>?_;refine wp_seq_k fun K13 hK13=>?_;refine wp_region_lit ?_;refine pY ha (yMove rfl) fun a ha=>?_;refine pY ha (yEql rfl rfl) fun a ha=>?_;refine pY ha (yMove rfl) fun a ha=>?_;refine pY ha (yBoolNeq Tryz.underlying4 rfl rfl) fun a ha=>?_;refine pY ha (yMove rfl) fun a ha=>?_;refine gSplit (t:=65) ha rfl (fun hg4=>?_) (fun hg4=>?_)
      · rw [hg4] at ha;refine gOn ha ?_;refine pY ha (yMove rfl) fun a ha=>?_;refine gOn ha ?_;refine pY ha (yEql rfl rfl) fun a ha=>?_;refine gOn ha ?_;refine pY ha (yMove rfl) fun a ha=>?_;refine gOn ha ?_;refine pY ha (yBoolNeq Tryz.underlying4 rfl rfl) fun a ha=>?_;refine pY ha (yPickF rfl rfl) fun a ha=>?_;refine pZ ?_;refine hK13 _ _ ?_;refine cNDec ha rfl (fun hc70=>?_) (fun hc70=>?_)
        · exact absurd hdl hc70
        · refine wp_skip ?_;refine hK12 _ _ ?_;refine wp_seq_k fun K14 hK14=>?_;refine wp_region_lit ?_;refine pY ha (yMove rfl) fun a ha=>?_;refine pC ha (nCall Tryz.call9 rfl) rfl (Decode_c hT hs (show Pick _ (.rd kU8 (.slice A1 _ _) _) _ from pk2)) ?_;rintro v w ⟨e3,rfl,hs⟩ a ha;obtain ⟨B1,p1,q1,B2,p2,q2,B3,p3,q3,rfl,hs⟩:=hs.el_msg .here;refine pY ha (yMove rfl) fun a ha=>?_;refine pY ha (yExtract rfl rfl) fun a ha=>?_;refine pY ha (yExtract rfl rfl) fun a ha=>?_;refine pAlloc (zs:=[.int .i64 0,.int .i64 0,.int .i64 0,.int .i64 0,.int .i64 0,.slice none 0 0,.slice none 0 0,.slice none 0 0,.int .i64 0]) ha Tryz.zeroValue26 rfl hs rfl fun b16 w hs a ha=>?_;refine pStoreA ha Tryz.sizeOf26 hs rfl rfl pk0 rfl rfl rfl fun w hs=>?_;refine pY ha (yAssign rfl) fun a ha=>?_;refine pZ ?_;refine hK14 _ _ ?_;refine wp_seq_k fun K15 hK15=>?_;refine wp_region_lit ?_;refine pY ha (yMove rfl) fun a ha=>?_;refine pC ha (nCall Tryz.call9 rfl) rfl (Decode_c hT hs (show Pick _ (.rd kU8 (.slice A2 _ _) _) _ from pk5)) ?_;rintro v w ⟨e4,rfl,hs⟩ a ha;obtain ⟨D1,s1,t1,D2,s2,t2,D3,s3,t3,rfl,hs⟩:=hs.el_msg .here;refine pY ha (yMove rfl) fun a ha=>?_;refine pY ha (yExtract rfl rfl) fun a ha=>?_;refine pY ha (yExtract rfl rfl) fun a ha=>?_;refine pAlloc (zs:=[.int .i64 0,.int .i64 0,.int .i64 0,.int .i64 0,.int .i64 0,.slice none 0 0,.slice none 0 0,.slice none 0 0,.int .i64 0]) ha Tryz.zeroValue26 rfl hs rfl fun b18 w hs a ha=>?_;refine pStoreA ha Tryz.sizeOf26 hs rfl rfl pk0 rfl rfl rfl fun w hs=>?_;refine pY ha (yAssign rfl) fun a ha=>?_;refine pZ ?_;refine hK15 _ _ ?_;refine wp_seq_k fun K16 hK16=>?_;refine wp_region_lit ?_;refine pY ha (yMove rfl) fun a ha=>?_;refine pY ha (yNot rfl) fun a ha=>?_;refine pY ha (yMove rfl) fun a ha=>?_;refine gSplit (t:=83) ha rfl (fun hg2=>?_) (fun hg2=>?_)
          · rw [hg2] at ha
            have hz1 : txnE (txA id s n) = 0:=by simpa using hg2
            have hd1:=enc_back (m:=txM id s n) (by rw [he1]; exact hz1)
            rw [hd1] at ha hs;simp only [txM] at ha hs;obtain ⟨hp1,_⟩:=hs.rd_shape (show Pick _ (.rd kActn (.slice B1 _ _) _) _ from pk6);simp only [txA,List.length_cons,List.length_nil] at hp1;subst hp1;obtain ⟨b,off,E1,x1,y1,rfl,hs⟩:=hs.rd_actn (show Pick _ (.rd kActn (.slice B1 _ _) (txA id s n)) _ from pk6) (i:=0) (x:=⟨4,id,0,emp,false,[⟨2,0,s⟩]⟩) rfl;obtain ⟨hx1,_⟩:=hs.rd_shape (show Pick _ (.rd kComp (.slice E1 _ _) _) _ from pk1);simp only [List.length_cons,List.length_nil] at hx1;subst hx1;obtain ⟨b',off',rfl,hs⟩:=hs.rd_comp (show Pick _ (.rd kComp (.slice E1 _ _) _) _ from pk1) (i:=0) (x:=⟨2,0,s⟩) rfl;obtain ⟨b2,off2,F1,x2,y2,e2,hs⟩:=hs.rd_actn (show Pick _ (.rd kActn (.slice (some ⟨b,off,none⟩) _ _) (txA id s n)) _ from pk9) (i:=1) (x:=⟨1,7,0,n,false,[]⟩) rfl;simp only [Option.some.injEq,Addr.mk.injEq,and_true] at e2;obtain ⟨rfl,rfl⟩:=e2;refine gOn ha ?_;refine pY ha (yMove rfl) fun a ha=>?_;refine gOn ha ?_;refine pY ha (yEql rfl rfl) fun a ha=>?_;refine gOn ha ?_;refine pY ha (yMove rfl) fun a ha=>?_;refine gDec (t:=86) ha rfl (fun hg5 hp5=>?_) (fun hg5 hp5=>?_)
            · exact absurd rfl hp5
            · rw [hg5] at ha;refine gOn ha ?_;refine pY ha (yFieldA Tryz.runUnderlying26 rfl Tryz.sizeOf22 rfl rfl) fun a ha=>?_;refine gOn ha ?_;refine pY ha (yLoadB Tryz.isAgg22 hs rfl pk10 rfl) fun a ha=>?_;refine gOn ha ?_;refine pY ha (yLenS Tryz.runUnderlying22 rfl) fun a ha=>?_;refine gOn ha ?_;refine pY ha (yEql rfl rfl) fun a ha=>?_;refine gOn ha ?_;refine pY ha (yPickT rfl rfl) fun a ha=>?_;refine gOn ha ?_;refine pY ha (yMove rfl) fun a ha=>?_;refine gSplit (t:=92) ha rfl (fun hg11=>?_) (fun hg11=>?_)
              · simp at hg11
              · rw [hg11] at ha;refine gOn ha ?_;refine pY ha (yFieldA Tryz.runUnderlying26 rfl Tryz.sizeOf22 rfl rfl) fun a ha=>?_;refine gOn ha ?_;refine pY ha (yLoadB Tryz.isAgg22 hs rfl pk10 rfl) fun a ha=>?_;refine gOn ha ?_;refine pY ha (yIndexA Tryz.runUnderlying22 Tryz.sizeOf48 rfl rfl (by omega) (by omega)) fun a ha=>?_;refine gOn ha ?_;refine pY ha (yFieldA Tryz.runUnderlying48 rfl Tryz.sizeOf46 rfl rfl) fun a ha=>?_;refine gOn ha ?_;refine pY ha (yLoadR Tryz.isAgg46 hs rfl pk3 rfl) fun a ha=>?_;refine gOn ha ?_;refine pY ha (yLenS Tryz.runUnderlying46 rfl) fun a ha=>?_;refine gOn ha ?_;refine pY ha (yEql rfl rfl) fun a ha=>?_;refine gOn ha ?_;refine pY ha (yPickT rfl rfl) fun a ha=>?_;refine gOn ha ?_;refine pY ha (yMove rfl) fun a ha=>?_;refine gSplit (t:=101) ha rfl (fun hg20=>?_) (fun hg20=>?_)
                · simp at hg20
                · rw [hg20] at ha;refine gOn ha ?_;refine pY ha (yFieldA Tryz.runUnderlying26 rfl Tryz.sizeOf22 rfl rfl) fun a ha=>?_;refine gOn ha ?_;refine pY ha (yLoadB Tryz.isAgg22 hs rfl pk10 rfl) fun a ha=>?_;refine gOn ha ?_;refine pY ha (yIndexA Tryz.runUnderlying22 Tryz.sizeOf48 rfl rfl (by omega) (by omega)) fun a ha=>?_;refine gOn ha ?_;refine pY ha (yFieldA Tryz.runUnderlying48 rfl Tryz.sizeOf46 rfl rfl) fun a ha=>?_;refine gOn ha ?_;refine pY ha (yLoadR Tryz.isAgg46 hs rfl pk3 rfl) fun a ha=>?_;refine gOn ha ?_;refine pY ha (yIndexA Tryz.runUnderlying46 Tryz.sizeOf45 rfl rfl (by omega) (by omega)) fun a ha=>?_;refine gOn ha ?_;refine pY ha (yFieldA Tryz.runUnderlying45 rfl Tryz.sizeOf9 rfl rfl) fun a ha=>?_;refine gOn ha ?_;refine pY ha (yLoadR Tryz.isAgg9 hs rfl pk2 rfl) fun a ha=>?_;refine gOn ha ?_;refine pY ha (yMove rfl) fun a ha=>?_;refine gOn ha ?_;refine pY ha (yStrEql rfl rfl) fun a ha=>?_;refine gOn ha ?_;refine pY ha (yPickT rfl rfl) fun a ha=>?_;refine gOn ha ?_;refine pY ha (yMove rfl) fun a ha=>?_;refine gSplit (t:=113) ha rfl (fun hg32=>?_) (fun hg32=>?_)
                  · simp at hg32
                  · rw [hg32] at ha;refine gOn ha ?_;refine pY ha (yFieldA Tryz.runUnderlying26 rfl Tryz.sizeOf22 rfl rfl) fun a ha=>?_;refine gOn ha ?_;refine pY ha (yLoadB Tryz.isAgg22 hs rfl pk10 rfl) fun a ha=>?_;refine gOn ha ?_;refine pY ha (yIndexA Tryz.runUnderlying22 Tryz.sizeOf48 rfl rfl (by omega) (by omega)) fun a ha=>?_;refine gOn ha ?_;refine pY ha (yFieldA Tryz.runUnderlying48 rfl Tryz.sizeOf9 rfl rfl) fun a ha=>?_;refine gOn ha ?_;refine pY ha (yLoadR Tryz.isAgg9 hs rfl pk0 rfl) fun a ha=>?_;refine gOn ha ?_;refine pY ha (yMove rfl) fun a ha=>?_;refine gOn ha ?_;refine pY ha (yStrEql rfl rfl) fun a ha=>?_;refine gOn ha ?_;refine pY ha (yPickT rfl rfl) fun a ha=>?_;refine pY ha (yPickF rfl rfl) fun a ha=>?_;refine pY ha (yMove rfl) fun a ha=>?_;refine gSplit (t:=123) ha rfl (fun hg42=>?_) (fun hg42=>?_)
                    · simp at hg42
                    · rw [hg42] at ha;refine gOn ha ?_;refine pY ha (yMove rfl) fun a ha=>?_;refine gOn ha ?_;refine pY ha (yNot rfl) fun a ha=>?_;refine gOn ha ?_;refine pY ha (yMove rfl) fun a ha=>?_;refine gSplit (t:=126) ha rfl (fun hg45=>?_) (fun hg45=>?_)
                      · rw [hg45] at ha
                        have hz2 : loadOk (txN s n) = true:=by simpa using hg45
                        have hd2:=enc_back (m:=txT s n) (by rw [he2,if_pos hz2])
                        rw [hd2] at ha hs;simp only [txT] at ha hs;obtain ⟨hp2,_⟩:=hs.rd_shape (show Pick _ (.rd kNod (.slice D3 _ _) _) _ from pk8);simp only [txN,List.length_cons,List.length_nil] at hp2;subst hp2;obtain ⟨b3,off3,rfl,hs⟩:=hs.rd_nod (show Pick _ (.rd kNod (.slice D3 _ _) (txN s n)) _ from pk8) (i:=0) (x:=⟨7,0,n,false,s⟩) rfl;refine gOn ha ?_;refine pY ha (yMove rfl) fun a ha=>?_;refine gOn ha ?_;refine pY ha (yEql rfl rfl) fun a ha=>?_;refine gOn ha ?_;refine pY ha (yMove rfl) fun a ha=>?_;refine gDec (t:=129) ha rfl (fun hg48 hp48=>?_) (fun hg48 hp48=>?_)
                        · exact absurd rfl hp48
                        · rw [hg48] at ha;refine gOn ha ?_;refine pY ha (yFieldA Tryz.runUnderlying26 rfl Tryz.sizeOf24 rfl rfl) fun a ha=>?_;refine gOn ha ?_;refine pY ha (yLoadB Tryz.isAgg24 hs rfl pk6 rfl) fun a ha=>?_;refine gOn ha ?_;refine pY ha (yLenS Tryz.runUnderlying24 rfl) fun a ha=>?_;refine gOn ha ?_;refine pY ha (yEql rfl rfl) fun a ha=>?_;refine gOn ha ?_;refine pY ha (yPickT rfl rfl) fun a ha=>?_;refine gOn ha ?_;refine pY ha (yMove rfl) fun a ha=>?_;refine gSplit (t:=135) ha rfl (fun hg54=>?_) (fun hg54=>?_)
                          · simp at hg54
                          · rw [hg54] at ha;refine gOn ha ?_;refine pY ha (yFieldA Tryz.runUnderlying26 rfl Tryz.sizeOf24 rfl rfl) fun a ha=>?_;refine gOn ha ?_;refine pY ha (yLoadB Tryz.isAgg24 hs rfl pk6 rfl) fun a ha=>?_;refine gOn ha ?_;refine pY ha (yIndexA Tryz.runUnderlying24 Tryz.sizeOf50 rfl rfl (by omega) (by omega)) fun a ha=>?_;refine gOn ha ?_;refine pY ha (yFieldA Tryz.runUnderlying50 rfl Tryz.sizeOf9 rfl rfl) fun a ha=>?_;refine gOn ha ?_;refine pY ha (yLoadR Tryz.isAgg9 hs rfl pk0 rfl) fun a ha=>?_;refine gOn ha ?_;refine pY ha (yMove rfl) fun a ha=>?_;refine gOn ha ?_;refine pY ha (yStrEql rfl rfl) fun a ha=>?_;refine gOn ha ?_;refine pY ha (yPickT rfl rfl) fun a ha=>?_;refine gOn ha ?_;refine pY ha (yPickF rfl rfl) fun a ha=>?_;refine pY ha (yPickT rfl rfl) fun a ha=>?_;refine pY ha (yMove rfl) fun a ha=>?_;refine gSplit (t:=146) ha rfl (fun hg65=>?_) (fun hg65=>?_)
                            · simp at hg65
                            · rw [hg65] at ha;refine gOn ha ?_;refine pC ha (nCall Tryz.call6 rfl) rfl (awake18_c hT hs) ?_;rintro v w ⟨rfl,hs⟩ a ha;refine pY ha (yPickT rfl rfl) fun a ha=>?_;refine pY ha (yAssign rfl) fun a ha=>?_;refine pZ ?_;refine hK16 _ _ ?_;refine wp_ret ?_;show bodyPost Tryz.prog Tryz.f4 _ .ret _ _;refine ret1 rfl ha rfl ?_;exact ⟨rfl,_,hs⟩
                      · rw [hg45] at ha;refine gOff ha fun a ha=>?_;refine gOff ha fun a ha=>?_;refine gOff ha fun a ha=>?_;refine gOffU ha fun a ha=>?_;refine gOffU ha fun a ha=>?_;refine gOffU ha fun a ha=>?_;refine gOffU ha fun a ha=>?_;refine gOff ha fun a ha=>?_;refine gOff ha fun a ha=>?_;refine gOffU ha fun a ha=>?_;refine gOffU ha fun a ha=>?_;refine gOffU ha fun a ha=>?_;refine gOffU ha fun a ha=>?_;refine gOffU ha fun a ha=>?_;refine gOffU ha fun a ha=>?_;refine gOffU ha fun a ha=>?_;refine gOff ha fun a ha=>?_;refine gOn ha ?_;refine pY ha (yPickT rfl rfl) fun a ha=>?_;refine pY ha (yPickT rfl rfl) fun a ha=>?_;refine pY ha (yMove rfl) fun a ha=>?_;refine gOn ha ?_;refine pC ha (nCall Tryz.call6 rfl) rfl (awake18_c hT hs) ?_;rintro v w ⟨rfl,hs⟩ a ha;refine pY ha (yPickT rfl rfl) fun a ha=>?_;refine pY ha (yAssign rfl) fun a ha=>?_;refine pZ ?_;refine hK16 _ _ ?_;refine wp_ret ?_;show bodyPost Tryz.prog Tryz.f4 _ .ret _ _;refine ret1 rfl ha rfl ?_;exact ⟨rfl,_,hs⟩
          · rw [hg2] at ha;refine gOff ha fun a ha=>?_;refine gOff ha fun a ha=>?_;refine gOff ha fun a ha=>?_;refine gOffU ha fun a ha=>?_;refine gOffU ha fun a ha=>?_;refine gOffU ha fun a ha=>?_;refine gOffU ha fun a ha=>?_;refine gOff ha fun a ha=>?_;refine gOff ha fun a ha=>?_;refine gOffU ha fun a ha=>?_;refine gOffU ha fun a ha=>?_;refine gOffU ha fun a ha=>?_;refine gOffU ha fun a ha=>?_;refine gOffU ha fun a ha=>?_;refine gOffU ha fun a ha=>?_;refine gOffU ha fun a ha=>?_;refine gOff ha fun a ha=>?_;refine gOff ha fun a ha=>?_;refine gOffU ha fun a ha=>?_;refine gOffU ha fun a ha=>?_;refine gOffU ha fun a ha=>?_;refine gOffU ha fun a ha=>?_;refine gOffU ha fun a ha=>?_;refine gOffU ha fun a ha=>?_;refine gOffU ha fun a ha=>?_;refine gOffU ha fun a ha=>?_;refine gOffU ha fun a ha=>?_;refine gOffU ha fun a ha=>?_;refine gOff ha fun a ha=>?_;refine gOff ha fun a ha=>?_;refine gOffU ha fun a ha=>?_;refine gOffU ha fun a ha=>?_;refine gOffU ha fun a ha=>?_;refine gOffU ha fun a ha=>?_;refine gOffU ha fun a ha=>?_;refine gOffU ha fun a ha=>?_;refine gOffU ha fun a ha=>?_;refine gOff ha fun a ha=>?_;refine pY ha (yPickT rfl rfl) fun a ha=>?_;refine pY ha (yMove rfl) fun a ha=>?_;refine gOn ha ?_;refine pY ha (yMove rfl) fun a ha=>?_;refine gOn ha ?_;refine pY ha (yNot rfl) fun a ha=>?_;refine gOn ha ?_;refine pY ha (yMove rfl) fun a ha=>?_;refine gSplit (t:=126) ha rfl (fun hg45=>?_) (fun hg45=>?_)
            · rw [hg45] at ha
              have hz2 : loadOk (txN s n) = true:=by simpa using hg45
              have hd2:=enc_back (m:=txT s n) (by rw [he2,if_pos hz2])
              rw [hd2] at ha hs;simp only [txT] at ha hs;obtain ⟨hp2,_⟩:=hs.rd_shape (show Pick _ (.rd kNod (.slice D3 _ _) _) _ from pk3);simp only [txN,List.length_cons,List.length_nil] at hp2;subst hp2;obtain ⟨b3,off3,rfl,hs⟩:=hs.rd_nod (show Pick _ (.rd kNod (.slice D3 _ _) (txN s n)) _ from pk3) (i:=0) (x:=⟨7,0,n,false,s⟩) rfl;refine gOn ha ?_;refine pY ha (yMove rfl) fun a ha=>?_;refine gOn ha ?_;refine pY ha (yEql rfl rfl) fun a ha=>?_;refine gOn ha ?_;refine pY ha (yMove rfl) fun a ha=>?_;refine gDec (t:=129) ha rfl (fun hg48 hp48=>?_) (fun hg48 hp48=>?_)
              · exact absurd rfl hp48
              · rw [hg48] at ha;refine gOn ha ?_;refine pY ha (yFieldA Tryz.runUnderlying26 rfl Tryz.sizeOf24 rfl rfl) fun a ha=>?_;refine gOn ha ?_;refine pY ha (yLoadB Tryz.isAgg24 hs rfl pk1 rfl) fun a ha=>?_;refine gOn ha ?_;refine pY ha (yLenS Tryz.runUnderlying24 rfl) fun a ha=>?_;refine gOn ha ?_;refine pY ha (yEql rfl rfl) fun a ha=>?_;refine gOn ha ?_;refine pY ha (yPickT rfl rfl) fun a ha=>?_;refine gOn ha ?_;refine pY ha (yMove rfl) fun a ha=>?_;refine gSplit (t:=135) ha rfl (fun hg54=>?_) (fun hg54=>?_)
                · simp at hg54
                · rw [hg54] at ha;refine gOn ha ?_;refine pY ha (yFieldA Tryz.runUnderlying26 rfl Tryz.sizeOf24 rfl rfl) fun a ha=>?_;refine gOn ha ?_;refine pY ha (yLoadB Tryz.isAgg24 hs rfl pk1 rfl) fun a ha=>?_;refine gOn ha ?_;refine pY ha (yIndexA Tryz.runUnderlying24 Tryz.sizeOf50 rfl rfl (by omega) (by omega)) fun a ha=>?_;refine gOn ha ?_;refine pY ha (yFieldA Tryz.runUnderlying50 rfl Tryz.sizeOf9 rfl rfl) fun a ha=>?_;refine gOn ha ?_;refine pY ha (yLoadR Tryz.isAgg9 hs rfl pk0 rfl) fun a ha=>?_;refine gOn ha ?_;refine pY ha (yMove rfl) fun a ha=>?_;refine gOn ha ?_;refine pY ha (yStrEql rfl rfl) fun a ha=>?_;refine gOn ha ?_;refine pY ha (yPickT rfl rfl) fun a ha=>?_;refine gOn ha ?_;refine pY ha (yPickF rfl rfl) fun a ha=>?_;refine pY ha (yPickT rfl rfl) fun a ha=>?_;refine pY ha (yMove rfl) fun a ha=>?_;refine gSplit (t:=146) ha rfl (fun hg65=>?_) (fun hg65=>?_)
                  · simp at hg65
                  · rw [hg65] at ha;refine gOn ha ?_;refine pC ha (nCall Tryz.call6 rfl) rfl (awake18_c hT hs) ?_;rintro v w ⟨rfl,hs⟩ a ha;refine pY ha (yPickT rfl rfl) fun a ha=>?_;refine pY ha (yAssign rfl) fun a ha=>?_;refine pZ ?_;refine hK16 _ _ ?_;refine wp_ret ?_;show bodyPost Tryz.prog Tryz.f4 _ .ret _ _;refine ret1 rfl ha rfl ?_;exact ⟨rfl,_,hs⟩
            · rw [hg45] at ha;refine gOff ha fun a ha=>?_;refine gOff ha fun a ha=>?_;refine gOff ha fun a ha=>?_;refine gOffU ha fun a ha=>?_;refine gOffU ha fun a ha=>?_;refine gOffU ha fun a ha=>?_;refine gOffU ha fun a ha=>?_;refine gOff ha fun a ha=>?_;refine gOff ha fun a ha=>?_;refine gOffU ha fun a ha=>?_;refine gOffU ha fun a ha=>?_;refine gOffU ha fun a ha=>?_;refine gOffU ha fun a ha=>?_;refine gOffU ha fun a ha=>?_;refine gOffU ha fun a ha=>?_;refine gOffU ha fun a ha=>?_;refine gOff ha fun a ha=>?_;refine gOn ha ?_;refine pY ha (yPickT rfl rfl) fun a ha=>?_;refine pY ha (yPickT rfl rfl) fun a ha=>?_;refine pY ha (yMove rfl) fun a ha=>?_;refine gOn ha ?_;refine pC ha (nCall Tryz.call6 rfl) rfl (awake18_c hT hs) ?_;rintro v w ⟨rfl,hs⟩ a ha;refine pY ha (yPickT rfl rfl) fun a ha=>?_;refine pY ha (yAssign rfl) fun a ha=>?_;refine pZ ?_;refine hK16 _ _ ?_;refine wp_ret ?_;show bodyPost Tryz.prog Tryz.f4 _ .ret _ _;refine ret1 rfl ha rfl ?_;exact ⟨rfl,_,hs⟩
      · simp at hg4
  · rw [hg3] at ha;refine gOff ha fun a ha=>?_;refine gOff ha fun a ha=>?_;refine gOff ha fun a ha=>?_;refine pY ha (yPickT rfl rfl) fun a ha=>?_;refine pZ ?_;refine hK3 _ _ ?_;refine cTrue ha rfl ?_;refine wp_seq_k fun K17 hK17=>?_;refine wp_region_lit ?_;refine pC ha (nCall Tryz.call6 rfl) rfl (awake18_c hT hs) ?_;rintro v w ⟨rfl,hs⟩ a ha;refine pY ha (yAssign rfl) fun a ha=>?_;refine pZ ?_;refine hK17 _ _ ?_;refine wp_ret ?_;show bodyPost Tryz.prog Tryz.f4 _ .ret _ _;refine ret1 rfl ha rfl ?_;exact ⟨rfl,_,hs⟩
end
end Go.Proofs.YtnlhbkaieoogfaaGreatDoor

