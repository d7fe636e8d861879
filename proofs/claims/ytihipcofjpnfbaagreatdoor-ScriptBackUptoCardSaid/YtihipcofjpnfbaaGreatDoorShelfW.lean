/- (The layings that ShelfW has elsewhere stand in Shelf here.) -/
import Derived.Test.YtihipcofjpnfbaaGreatDoorShelf
