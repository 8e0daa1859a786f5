/- (What the port leaves of the builders' contracts: nothing.) -/
import Derived.Test.YtabpfbgcdmejbaaDoorShelf
